/- The contracts of the functions that FnExactRaftPropose reaches (each: what it answers, said over values), printed by a program of this session (wip/sy/g/gen.py). -/
import Derived.Test.YtlmadhahghiedaaFFnExactRaftPropose3
set_option linter.unusedVariables false
set_option linter.unusedSimpArgs false
namespace Go.Proofs.Ytlmadhahghiedaa
open Go Go.Sy Go.Proofs
set_option maxRecDepth 100000 in
set_option maxHeartbeats 4000000 in
theorem laws_eqIntS_spec  (a : List Int) (b : List Int) (ha : a.length ≤ 1048576) (hb : b.length ≤ 1048576) : FnSpec Try.prog 45 [.sl false 1 (a.map encI), .sl false 1 (b.map encI)] [] (.bool (listEq eqI a b)) [] := by
  refine FnSpec.of 26 Try.func45 rfl Try.ntmps45 (by simp) (AW.weakK ?_)
  refine AW.seq ?_
  refine AW.region (At.start ?_)
  refine At.auto 1 (by kernel_rfl) ?_
  refine At.done rfl ?_
  refine AW.seq ?_
  refine AW.seq ?_
  refine AW.region (At.start ?_)
  refine At.auto 2 (by kernel_rfl) ?_
  refine At.say 7 (.int .i64 (((a.map encI).length : Nat) : Int)) (.int .i64 (a.length : Int)) (by kernel_rfl) (sayLen _ _) ?_
  refine At.auto 2 (by kernel_rfl) ?_
  refine At.say 9 (.int .i64 (((b.map encI).length : Nat) : Int)) (.int .i64 (b.length : Int)) (by kernel_rfl) (sayLen _ _) ?_
  refine At.auto 1 (by kernel_rfl) ?_
  refine At.done rfl ?_
  refine AW.cond ((a.length : Int) != (b.length : Int)) (by kernel_rfl) (fun hb => ?_) (fun hb => ?_)
  · have h1 : ¬ ((a.length : Int) = (b.length : Int)) := by simpa using hb
    clear hb
    refine AW.seq ?_
    refine AW.region (At.start ?_)
    refine At.auto 1 (by kernel_rfl) ?_
    refine At.done rfl ?_
    refine AW.ret ?_
    refine ⟨_, Sub.refl _ _, ?_⟩
    refine KF.conv (fun w => .bool w) (fun w => []) (show (false) = (listEq eqI a b) from by first | (rw [listEq_len (by omega)]; done) | (rw [hR, dropCons he1, dropCons he2, listEq]; simp [eqI, *]; done) | (rw [hR, List.drop_of_length_le (by omega), List.drop_of_length_le (by omega)]; rfl)) ?_
    exact KF.mk (.inr rfl) [] [.bool false] (by kernel_rfl) (by kernel_rfl) (by kernel_rfl) (by kernel_rfl) (by kernel_rfl)
  · have h1 : (a.length : Int) = (b.length : Int) := by simpa using hb
    clear hb
    refine AW.skip ?_
    refine AW.seq ?_
    refine AW.seq ?_
    refine AW.region (At.start ?_)
    refine At.auto 1 (by kernel_rfl) ?_
    refine At.done rfl ?_
    refine AW.block ?_
    refine AW.loopW (fun (k : Nat) => Go.Sy.mk [.sl false 1 (a.map encI), .sl false 1 (b.map encI), .un, .un, .un, .int .i64 (k : Int)] []) (fun (k : Nat) => k ≤ a.length ∧ listEq eqI a b = listEq eqI (a.drop k) (b.drop k)) (fun (k : Nat) => a.length - k) 0 ⟨by omega, by rw [List.drop_zero, List.drop_zero]⟩ (Sub.of [] [true, true, false, false, false, true] _ _ (by kernel_rfl) (by kernel_rfl) (by kernel_rfl)) ?_
    rintro k ⟨hk, hR⟩
    refine AW.seq ?_
    refine AW.seq ?_
    refine AW.region (At.start ?_)
    refine At.auto 3 (by kernel_rfl) ?_
    refine At.say 13 (.int .i64 (((a.map encI).length : Nat) : Int)) (.int .i64 (a.length : Int)) (by kernel_rfl) (sayLen _ _) ?_
    refine At.auto 1 (by kernel_rfl) ?_
    refine At.done rfl ?_
    refine AW.cond (decide ((k : Int) < (a.length : Int))) (by kernel_rfl) (fun hb => ?_) (fun hb => ?_)
    · have h2 : (k : Int) < (a.length : Int) := by simpa using hb
      clear hb
      refine AW.skip ?_
      refine AW.seq ?_
      refine AW.block ?_
      refine AW.seq ?_
      refine AW.regionD Try_mix (At.start ?_)
      refine At.auto 2 (by kernel_rfl) ?_
      refine At.idxSl (t := 25) (d := 19) (x := .tmp 17) (y := .tmp 18) (p := false) (es := 1) (xs := (a.map encI)) (kd := .i64) (i := (k : Int)) (e := 3) (by kernel_rfl) (by kernel_rfl) (by kernel_rfl) (by kernel_rfl) (by omega) (by first | omega | (simp only [List.length_map, List.length_append, List.length_take, List.length_drop, List.length_replicate, List.length_set, List.length_cons, List.length_nil]; omega)) ?_
      refine Exists.elim (show ∃ e, a[k]? = some e from ⟨_, List.getElem?_eq_getElem (by first | omega | (simp only [List.length_map, List.length_append, List.length_take, List.length_drop, List.length_replicate, List.length_set, List.length_cons, List.length_nil]; omega))⟩) fun e1 he1 => ?_
      refine At.ldVp (t := 3) (d := 20) (x := .tmp 19) (p := false) (es := 1) (xs := (a.map encI)) (j := k) (off := 0) (b := false) (m := 1) (encI e1) (.int .i64 e1) (by kernel_rfl) (by kernel_rfl) (by kernel_rfl) (by kernel_rfl) (mapGet he1) (by kernel_rfl) ?_
      refine At.auto 2 (by kernel_rfl) ?_
      refine At.idxSl (t := 25) (d := 23) (x := .tmp 21) (y := .tmp 22) (p := false) (es := 1) (xs := (b.map encI)) (kd := .i64) (i := (k : Int)) (e := 3) (by kernel_rfl) (by kernel_rfl) (by kernel_rfl) (by kernel_rfl) (by omega) (by first | omega | (simp only [List.length_map, List.length_append, List.length_take, List.length_drop, List.length_replicate, List.length_set, List.length_cons, List.length_nil]; omega)) ?_
      refine Exists.elim (show ∃ e, b[k]? = some e from ⟨_, List.getElem?_eq_getElem (by first | omega | (simp only [List.length_map, List.length_append, List.length_take, List.length_drop, List.length_replicate, List.length_set, List.length_cons, List.length_nil]; omega))⟩) fun e2 he2 => ?_
      refine At.ldVp (t := 3) (d := 24) (x := .tmp 23) (p := false) (es := 1) (xs := (b.map encI)) (j := k) (off := 0) (b := false) (m := 1) (encI e2) (.int .i64 e2) (by kernel_rfl) (by kernel_rfl) (by kernel_rfl) (by kernel_rfl) (mapGet he2) (by kernel_rfl) ?_
      refine At.auto 1 (by kernel_rfl) ?_
      refine At.done rfl ⟨by kernel_rfl, ?_⟩
      refine AW.cond (e1 != e2) (by kernel_rfl) (fun hb => ?_) (fun hb => ?_)
      · have h3 : ¬ (e1 = e2) := by simpa using hb
        clear hb
        refine AW.seq ?_
        refine AW.region (At.start ?_)
        refine At.auto 1 (by kernel_rfl) ?_
        refine At.done rfl ?_
        refine AW.ret ?_
        refine ⟨_, Sub.refl _ _, ?_⟩
        refine KF.conv (fun w => .bool w) (fun w => []) (show (false) = (listEq eqI a b) from by first | (rw [listEq_len (by omega)]; done) | (rw [hR, dropCons he1, dropCons he2, listEq]; simp [eqI, *]; done) | (rw [hR, List.drop_of_length_le (by omega), List.drop_of_length_le (by omega)]; rfl)) ?_
        exact KF.mk (.inr rfl) [] [.bool false] (by kernel_rfl) (by kernel_rfl) (by kernel_rfl) (by kernel_rfl) (by kernel_rfl)
      · have h3 : e1 = e2 := by simpa using hb
        clear hb
        refine AW.skip ?_
        refine AW.region (At.start ?_)
        refine At.auto 2 (by kernel_rfl) ?_
        refine At.say 16 (.int .i64 (IntKind.i64.wrap ((k : Int) + 1))) (.int .i64 ((k : Int) + 1)) (by kernel_rfl) (sayI _ (by omega)) ?_
        refine At.auto 1 (by kernel_rfl) ?_
        refine At.done rfl ?_
        exact ⟨k + 1, ⟨by omega, by rw [hR, dropCons he1, dropCons he2, listEq]; simp [eqI, *]⟩, (by omega), Sub.of [] [true, true, false, false, false, true] _ _ (by kernel_rfl) (by kernel_rfl) (by kernel_rfl)⟩
    · have h2 : ¬ ((k : Int) < (a.length : Int)) := by simpa using hb
      clear hb
      refine AW.exit ?_
      refine AW.seq ?_
      refine AW.region (At.start ?_)
      refine At.auto 1 (by kernel_rfl) ?_
      refine At.done rfl ?_
      refine AW.ret ?_
      refine ⟨_, Sub.refl _ _, ?_⟩
      refine KF.conv (fun w => .bool w) (fun w => []) (show (true) = (listEq eqI a b) from by first | (rw [listEq_len (by omega)]; done) | (rw [hR, dropCons he1, dropCons he2, listEq]; simp [eqI, *]; done) | (rw [hR, List.drop_of_length_le (by omega), List.drop_of_length_le (by omega)]; rfl)) ?_
      exact KF.mk (.inr rfl) [] [.bool true] (by kernel_rfl) (by kernel_rfl) (by kernel_rfl) (by kernel_rfl) (by kernel_rfl)
set_option maxRecDepth 100000 in
set_option maxHeartbeats 4000000 in
theorem laws_eqRaft_spec  (a : Raft) (b : Raft) (ha : SmallR a) (hb : SmallR b) : FnSpec Try.prog 12 [.agg [.int .i64 a.id, .int .i64 a.of_, .int .i64 a.role, .int .i64 a.commit, .int .i64 a.hard.term, .int .i64 a.hard.vote, .sl false 6 (a.hard.log.map encEnt), .sl false 1 (a.yes.map encI), .sl false 1 (a.next.map encI), .sl false 1 (a.match_.map encI)], .agg [.int .i64 b.id, .int .i64 b.of_, .int .i64 b.role, .int .i64 b.commit, .int .i64 b.hard.term, .int .i64 b.hard.vote, .sl false 6 (b.hard.log.map encEnt), .sl false 1 (b.yes.map encI), .sl false 1 (b.next.map encI), .sl false 1 (b.match_.map encI)]] [] (.bool (raftEq a b)) [] := by
  obtain ⟨z1, z2, z3, z4⟩ := id ha
  obtain ⟨y1, y2, y3, y4⟩ := id hb
  refine FnSpec.of 49 Try.func12 rfl Try.ntmps12 (by simp) (AW.weakK ?_)
  refine AW.seq ?_
  refine AW.region (At.start ?_)
  refine At.auto 3 (by kernel_rfl) ?_
  refine At.done rfl ?_
  refine AW.seq ?_
  refine AW.seq ?_
  refine AW.region (At.start ?_)
  refine At.auto 5 (by kernel_rfl) ?_
  refine At.done rfl ?_
  refine AW.cond (a.id != b.id) (by kernel_rfl) (fun hb => ?_) (fun hb => ?_)
  · have h1 : ¬ (a.id = b.id) := by simpa using hb
    clear hb
    refine AW.seq ?_
    refine AW.region (At.start ?_)
    refine At.auto 1 (by kernel_rfl) ?_
    refine At.done rfl ?_
    refine AW.ret ?_
    refine ⟨_, Sub.refl _ _, ?_⟩
    refine KF.conv (fun w => .bool w) (fun w => []) (show (false) = (raftEq a b) from by simp [raftEq, h1]) ?_
    exact KF.mk (.inr rfl) [] [.bool false] (by kernel_rfl) (by kernel_rfl) (by kernel_rfl) (by kernel_rfl) (by kernel_rfl)
  · have h1 : a.id = b.id := by simpa using hb
    clear hb
    refine AW.skip ?_
    refine AW.seq ?_
    refine AW.seq ?_
    refine AW.region (At.start ?_)
    refine At.auto 5 (by kernel_rfl) ?_
    refine At.done rfl ?_
    refine AW.cond (a.of_ != b.of_) (by kernel_rfl) (fun hb => ?_) (fun hb => ?_)
    · have h2 : ¬ (a.of_ = b.of_) := by simpa using hb
      clear hb
      refine AW.seq ?_
      refine AW.region (At.start ?_)
      refine At.auto 1 (by kernel_rfl) ?_
      refine At.done rfl ?_
      refine AW.ret ?_
      refine ⟨_, Sub.refl _ _, ?_⟩
      refine KF.conv (fun w => .bool w) (fun w => []) (show (false) = (raftEq a b) from by simp [raftEq, h1, h2]) ?_
      exact KF.mk (.inr rfl) [] [.bool false] (by kernel_rfl) (by kernel_rfl) (by kernel_rfl) (by kernel_rfl) (by kernel_rfl)
    · have h2 : a.of_ = b.of_ := by simpa using hb
      clear hb
      refine AW.skip ?_
      refine AW.seq ?_
      refine AW.seq ?_
      refine AW.region (At.start ?_)
      refine At.auto 5 (by kernel_rfl) ?_
      refine At.done rfl ?_
      refine AW.cond (a.role != b.role) (by kernel_rfl) (fun hb => ?_) (fun hb => ?_)
      · have h3 : ¬ (a.role = b.role) := by simpa using hb
        clear hb
        refine AW.seq ?_
        refine AW.region (At.start ?_)
        refine At.auto 1 (by kernel_rfl) ?_
        refine At.done rfl ?_
        refine AW.ret ?_
        refine ⟨_, Sub.refl _ _, ?_⟩
        refine KF.conv (fun w => .bool w) (fun w => []) (show (false) = (raftEq a b) from by simp [raftEq, h1, h2, h3]) ?_
        exact KF.mk (.inr rfl) [] [.bool false] (by kernel_rfl) (by kernel_rfl) (by kernel_rfl) (by kernel_rfl) (by kernel_rfl)
      · have h3 : a.role = b.role := by simpa using hb
        clear hb
        refine AW.skip ?_
        refine AW.seq ?_
        refine AW.seq ?_
        refine AW.region (At.start ?_)
        refine At.auto 5 (by kernel_rfl) ?_
        refine At.done rfl ?_
        refine AW.cond (a.commit != b.commit) (by kernel_rfl) (fun hb => ?_) (fun hb => ?_)
        · have h4 : ¬ (a.commit = b.commit) := by simpa using hb
          clear hb
          refine AW.seq ?_
          refine AW.region (At.start ?_)
          refine At.auto 1 (by kernel_rfl) ?_
          refine At.done rfl ?_
          refine AW.ret ?_
          refine ⟨_, Sub.refl _ _, ?_⟩
          refine KF.conv (fun w => .bool w) (fun w => []) (show (false) = (raftEq a b) from by simp [raftEq, h1, h2, h3, h4]) ?_
          exact KF.mk (.inr rfl) [] [.bool false] (by kernel_rfl) (by kernel_rfl) (by kernel_rfl) (by kernel_rfl) (by kernel_rfl)
        · have h4 : a.commit = b.commit := by simpa using hb
          clear hb
          refine AW.skip ?_
          refine AW.seq ?_
          refine AW.seq ?_
          refine AW.region (At.start ?_)
          refine At.auto 4 (by kernel_rfl) ?_
          refine At.call (laws_eqHard_spec  a.hard b.hard (by first | omega | (dsimp only; omega) | (simp only [List.length_map, List.length_append, List.length_take, List.length_drop, List.length_replicate, List.length_set, List.length_cons, List.length_nil]; omega)) (by first | omega | (dsimp only; omega) | (simp only [List.length_map, List.length_append, List.length_take, List.length_drop, List.length_replicate, List.length_set, List.length_cons, List.length_nil]; omega))) Try.call44 true [] [] [] (by kernel_rfl) (by kernel_rfl) (by kernel_rfl) (by kernel_rfl) (by kernel_rfl) trivial ?_
          refine At.auto 1 (by kernel_rfl) ?_
          refine At.done rfl ?_
          refine AW.cond (!(hardEq a.hard b.hard)) (by kernel_rfl) (fun hb => ?_) (fun hb => ?_)
          · have h5 : (hardEq a.hard b.hard) = false := by simpa using hb
            clear hb
            refine AW.seq ?_
            refine AW.region (At.start ?_)
            refine At.auto 1 (by kernel_rfl) ?_
            refine At.done rfl ?_
            refine AW.ret ?_
            refine ⟨_, Sub.refl _ _, ?_⟩
            refine KF.conv (fun w => .bool w) (fun w => []) (show (false) = (raftEq a b) from by simp [raftEq, h1, h2, h3, h4, h5]) ?_
            exact KF.mk (.inr rfl) [] [.bool false] (by kernel_rfl) (by kernel_rfl) (by kernel_rfl) (by kernel_rfl) (by kernel_rfl)
          · have h5 : (hardEq a.hard b.hard) = true := by simpa using hb
            clear hb
            refine AW.skip ?_
            refine AW.seq ?_
            refine AW.seq ?_
            refine AW.region (At.start ?_)
            refine At.auto 4 (by kernel_rfl) ?_
            refine At.call (laws_eqIntS_spec  a.yes b.yes (by first | omega | (dsimp only; omega) | (simp only [List.length_map, List.length_append, List.length_take, List.length_drop, List.length_replicate, List.length_set, List.length_cons, List.length_nil]; omega)) (by first | omega | (dsimp only; omega) | (simp only [List.length_map, List.length_append, List.length_take, List.length_drop, List.length_replicate, List.length_set, List.length_cons, List.length_nil]; omega))) Try.call45 true [] [] [] (by kernel_rfl) (by kernel_rfl) (by kernel_rfl) (by kernel_rfl) (by kernel_rfl) trivial ?_
            refine At.auto 1 (by kernel_rfl) ?_
            refine At.done rfl ?_
            refine AW.cond (!(listEq eqI a.yes b.yes)) (by kernel_rfl) (fun hb => ?_) (fun hb => ?_)
            · have h6 : (listEq eqI a.yes b.yes) = false := by simpa using hb
              clear hb
              refine AW.seq ?_
              refine AW.region (At.start ?_)
              refine At.auto 1 (by kernel_rfl) ?_
              refine At.done rfl ?_
              refine AW.ret ?_
              refine ⟨_, Sub.refl _ _, ?_⟩
              refine KF.conv (fun w => .bool w) (fun w => []) (show (false) = (raftEq a b) from by simp [raftEq, h1, h2, h3, h4, h5, h6]) ?_
              exact KF.mk (.inr rfl) [] [.bool false] (by kernel_rfl) (by kernel_rfl) (by kernel_rfl) (by kernel_rfl) (by kernel_rfl)
            · have h6 : (listEq eqI a.yes b.yes) = true := by simpa using hb
              clear hb
              refine AW.skip ?_
              refine AW.seq ?_
              refine AW.seq ?_
              refine AW.region (At.start ?_)
              refine At.auto 4 (by kernel_rfl) ?_
              refine At.call (laws_eqIntS_spec  a.next b.next (by first | omega | (dsimp only; omega) | (simp only [List.length_map, List.length_append, List.length_take, List.length_drop, List.length_replicate, List.length_set, List.length_cons, List.length_nil]; omega)) (by first | omega | (dsimp only; omega) | (simp only [List.length_map, List.length_append, List.length_take, List.length_drop, List.length_replicate, List.length_set, List.length_cons, List.length_nil]; omega))) Try.call45 true [] [] [] (by kernel_rfl) (by kernel_rfl) (by kernel_rfl) (by kernel_rfl) (by kernel_rfl) trivial ?_
              refine At.auto 1 (by kernel_rfl) ?_
              refine At.done rfl ?_
              refine AW.cond (!(listEq eqI a.next b.next)) (by kernel_rfl) (fun hb => ?_) (fun hb => ?_)
              · have h7 : (listEq eqI a.next b.next) = false := by simpa using hb
                clear hb
                refine AW.seq ?_
                refine AW.region (At.start ?_)
                refine At.auto 1 (by kernel_rfl) ?_
                refine At.done rfl ?_
                refine AW.ret ?_
                refine ⟨_, Sub.refl _ _, ?_⟩
                refine KF.conv (fun w => .bool w) (fun w => []) (show (false) = (raftEq a b) from by simp [raftEq, h1, h2, h3, h4, h5, h6, h7]) ?_
                exact KF.mk (.inr rfl) [] [.bool false] (by kernel_rfl) (by kernel_rfl) (by kernel_rfl) (by kernel_rfl) (by kernel_rfl)
              · have h7 : (listEq eqI a.next b.next) = true := by simpa using hb
                clear hb
                refine AW.skip ?_
                refine AW.seq ?_
                refine AW.seq ?_
                refine AW.region (At.start ?_)
                refine At.auto 4 (by kernel_rfl) ?_
                refine At.call (laws_eqIntS_spec  a.match_ b.match_ (by first | omega | (dsimp only; omega) | (simp only [List.length_map, List.length_append, List.length_take, List.length_drop, List.length_replicate, List.length_set, List.length_cons, List.length_nil]; omega)) (by first | omega | (dsimp only; omega) | (simp only [List.length_map, List.length_append, List.length_take, List.length_drop, List.length_replicate, List.length_set, List.length_cons, List.length_nil]; omega))) Try.call45 true [] [] [] (by kernel_rfl) (by kernel_rfl) (by kernel_rfl) (by kernel_rfl) (by kernel_rfl) trivial ?_
                refine At.auto 1 (by kernel_rfl) ?_
                refine At.done rfl ?_
                refine AW.cond (!(listEq eqI a.match_ b.match_)) (by kernel_rfl) (fun hb => ?_) (fun hb => ?_)
                · have h8 : (listEq eqI a.match_ b.match_) = false := by simpa using hb
                  clear hb
                  refine AW.seq ?_
                  refine AW.region (At.start ?_)
                  refine At.auto 1 (by kernel_rfl) ?_
                  refine At.done rfl ?_
                  refine AW.ret ?_
                  refine ⟨_, Sub.refl _ _, ?_⟩
                  refine KF.conv (fun w => .bool w) (fun w => []) (show (false) = (raftEq a b) from by simp [raftEq, h1, h2, h3, h4, h5, h6, h7, h8]) ?_
                  exact KF.mk (.inr rfl) [] [.bool false] (by kernel_rfl) (by kernel_rfl) (by kernel_rfl) (by kernel_rfl) (by kernel_rfl)
                · have h8 : (listEq eqI a.match_ b.match_) = true := by simpa using hb
                  clear hb
                  refine AW.skip ?_
                  refine AW.seq ?_
                  refine AW.region (At.start ?_)
                  refine At.auto 1 (by kernel_rfl) ?_
                  refine At.done rfl ?_
                  refine AW.ret ?_
                  refine ⟨_, Sub.refl _ _, ?_⟩
                  refine KF.conv (fun w => .bool w) (fun w => []) (show (true) = (raftEq a b) from by simp [raftEq, h1, h2, h3, h4, h5, h6, h7, h8]) ?_
                  exact KF.mk (.inr rfl) [] [.bool true] (by kernel_rfl) (by kernel_rfl) (by kernel_rfl) (by kernel_rfl) (by kernel_rfl)
set_option maxRecDepth 100000 in
set_option maxHeartbeats 4000000 in
theorem laws_eqRec_spec  (a : Rec) (b : Rec) : FnSpec Try.prog 60 [.agg [.int .i64 a.kind, .int .i64 a.term, .int .i64 a.vote, .int .i64 a.at_, .int .i64 a.entry.term, .int .i64 a.entry.cmd.kind, .int .i64 a.entry.cmd.release, .int .i64 a.entry.cmd.node, .int .i64 a.entry.cmd.size, .str a.entry.cmd.digest], .agg [.int .i64 b.kind, .int .i64 b.term, .int .i64 b.vote, .int .i64 b.at_, .int .i64 b.entry.term, .int .i64 b.entry.cmd.kind, .int .i64 b.entry.cmd.release, .int .i64 b.entry.cmd.node, .int .i64 b.entry.cmd.size, .str b.entry.cmd.digest]] [] (.bool (recEq a b)) [] := by
  refine FnSpec.of 31 Try.func60 rfl Try.ntmps60 (by simp) (AW.weakK ?_)
  refine AW.seq ?_
  refine AW.region (At.start ?_)
  refine At.auto 3 (by kernel_rfl) ?_
  refine At.done rfl ?_
  refine AW.seq ?_
  refine AW.seq ?_
  refine AW.region (At.start ?_)
  refine At.auto 5 (by kernel_rfl) ?_
  refine At.done rfl ?_
  refine AW.cond (a.kind != b.kind) (by kernel_rfl) (fun hb => ?_) (fun hb => ?_)
  · have h1 : ¬ (a.kind = b.kind) := by simpa using hb
    clear hb
    refine AW.seq ?_
    refine AW.region (At.start ?_)
    refine At.auto 1 (by kernel_rfl) ?_
    refine At.done rfl ?_
    refine AW.ret ?_
    refine ⟨_, Sub.refl _ _, ?_⟩
    refine KF.conv (fun w => .bool w) (fun w => []) (show (false) = (recEq a b) from by simp [recEq, *]) ?_
    exact KF.mk (.inr rfl) [] [.bool false] (by kernel_rfl) (by kernel_rfl) (by kernel_rfl) (by kernel_rfl) (by kernel_rfl)
  · have h1 : a.kind = b.kind := by simpa using hb
    clear hb
    refine AW.skip ?_
    refine AW.seq ?_
    refine AW.seq ?_
    refine AW.region (At.start ?_)
    refine At.auto 5 (by kernel_rfl) ?_
    refine At.done rfl ?_
    refine AW.cond (a.term != b.term) (by kernel_rfl) (fun hb => ?_) (fun hb => ?_)
    · have h2 : ¬ (a.term = b.term) := by simpa using hb
      clear hb
      refine AW.seq ?_
      refine AW.region (At.start ?_)
      refine At.auto 1 (by kernel_rfl) ?_
      refine At.done rfl ?_
      refine AW.ret ?_
      refine ⟨_, Sub.refl _ _, ?_⟩
      refine KF.conv (fun w => .bool w) (fun w => []) (show (false) = (recEq a b) from by simp [recEq, *]) ?_
      exact KF.mk (.inr rfl) [] [.bool false] (by kernel_rfl) (by kernel_rfl) (by kernel_rfl) (by kernel_rfl) (by kernel_rfl)
    · have h2 : a.term = b.term := by simpa using hb
      clear hb
      refine AW.skip ?_
      refine AW.seq ?_
      refine AW.seq ?_
      refine AW.region (At.start ?_)
      refine At.auto 5 (by kernel_rfl) ?_
      refine At.done rfl ?_
      refine AW.cond (a.vote != b.vote) (by kernel_rfl) (fun hb => ?_) (fun hb => ?_)
      · have h3 : ¬ (a.vote = b.vote) := by simpa using hb
        clear hb
        refine AW.seq ?_
        refine AW.region (At.start ?_)
        refine At.auto 1 (by kernel_rfl) ?_
        refine At.done rfl ?_
        refine AW.ret ?_
        refine ⟨_, Sub.refl _ _, ?_⟩
        refine KF.conv (fun w => .bool w) (fun w => []) (show (false) = (recEq a b) from by simp [recEq, *]) ?_
        exact KF.mk (.inr rfl) [] [.bool false] (by kernel_rfl) (by kernel_rfl) (by kernel_rfl) (by kernel_rfl) (by kernel_rfl)
      · have h3 : a.vote = b.vote := by simpa using hb
        clear hb
        refine AW.skip ?_
        refine AW.seq ?_
        refine AW.seq ?_
        refine AW.region (At.start ?_)
        refine At.auto 5 (by kernel_rfl) ?_
        refine At.done rfl ?_
        refine AW.cond (a.at_ != b.at_) (by kernel_rfl) (fun hb => ?_) (fun hb => ?_)
        · have h4 : ¬ (a.at_ = b.at_) := by simpa using hb
          clear hb
          refine AW.seq ?_
          refine AW.region (At.start ?_)
          refine At.auto 1 (by kernel_rfl) ?_
          refine At.done rfl ?_
          refine AW.ret ?_
          refine ⟨_, Sub.refl _ _, ?_⟩
          refine KF.conv (fun w => .bool w) (fun w => []) (show (false) = (recEq a b) from by simp [recEq, *]) ?_
          exact KF.mk (.inr rfl) [] [.bool false] (by kernel_rfl) (by kernel_rfl) (by kernel_rfl) (by kernel_rfl) (by kernel_rfl)
        · have h4 : a.at_ = b.at_ := by simpa using hb
          clear hb
          refine AW.skip ?_
          refine AW.seq ?_
          refine AW.seq ?_
          refine AW.region (At.start ?_)
          refine At.auto 4 (by kernel_rfl) ?_
          refine At.call (laws_eqEntry_spec  a.entry b.entry ) Try.call95 true [] [] [] (by kernel_rfl) (by kernel_rfl) (by kernel_rfl) (by kernel_rfl) (by kernel_rfl) trivial ?_
          refine At.auto 1 (by kernel_rfl) ?_
          refine At.done rfl ?_
          refine AW.cond (!(entEq a.entry b.entry)) (by kernel_rfl) (fun hb => ?_) (fun hb => ?_)
          · have h5 : (entEq a.entry b.entry) = false := by simpa using hb
            clear hb
            refine AW.seq ?_
            refine AW.region (At.start ?_)
            refine At.auto 1 (by kernel_rfl) ?_
            refine At.done rfl ?_
            refine AW.ret ?_
            refine ⟨_, Sub.refl _ _, ?_⟩
            refine KF.conv (fun w => .bool w) (fun w => []) (show (false) = (recEq a b) from by simp [recEq, *]) ?_
            exact KF.mk (.inr rfl) [] [.bool false] (by kernel_rfl) (by kernel_rfl) (by kernel_rfl) (by kernel_rfl) (by kernel_rfl)
          · have h5 : (entEq a.entry b.entry) = true := by simpa using hb
            clear hb
            refine AW.skip ?_
            refine AW.seq ?_
            refine AW.region (At.start ?_)
            refine At.auto 1 (by kernel_rfl) ?_
            refine At.done rfl ?_
            refine AW.ret ?_
            refine ⟨_, Sub.refl _ _, ?_⟩
            refine KF.conv (fun w => .bool w) (fun w => []) (show (true) = (recEq a b) from by simp [recEq, *]) ?_
            exact KF.mk (.inr rfl) [] [.bool true] (by kernel_rfl) (by kernel_rfl) (by kernel_rfl) (by kernel_rfl) (by kernel_rfl)
set_option maxRecDepth 100000 in
set_option maxHeartbeats 4000000 in
theorem laws_eqRecS_spec  (a : List Rec) (b : List Rec) (ha : a.length ≤ 1048576) (hb : b.length ≤ 1048576) : FnSpec Try.prog 20 [.sl false 10 (a.map encRec), .sl false 10 (b.map encRec)] [] (.bool (listEq recEq a b)) [] := by
  refine FnSpec.of 27 Try.func20 rfl Try.ntmps20 (by simp) (AW.weakK ?_)
  refine AW.seq ?_
  refine AW.region (At.start ?_)
  refine At.auto 1 (by kernel_rfl) ?_
  refine At.done rfl ?_
  refine AW.seq ?_
  refine AW.seq ?_
  refine AW.region (At.start ?_)
  refine At.auto 2 (by kernel_rfl) ?_
  refine At.say 7 (.int .i64 (((a.map encRec).length : Nat) : Int)) (.int .i64 (a.length : Int)) (by kernel_rfl) (sayLen _ _) ?_
  refine At.auto 2 (by kernel_rfl) ?_
  refine At.say 9 (.int .i64 (((b.map encRec).length : Nat) : Int)) (.int .i64 (b.length : Int)) (by kernel_rfl) (sayLen _ _) ?_
  refine At.auto 1 (by kernel_rfl) ?_
  refine At.done rfl ?_
  refine AW.cond ((a.length : Int) != (b.length : Int)) (by kernel_rfl) (fun hb => ?_) (fun hb => ?_)
  · have h1 : ¬ ((a.length : Int) = (b.length : Int)) := by simpa using hb
    clear hb
    refine AW.seq ?_
    refine AW.region (At.start ?_)
    refine At.auto 1 (by kernel_rfl) ?_
    refine At.done rfl ?_
    refine AW.ret ?_
    refine ⟨_, Sub.refl _ _, ?_⟩
    refine KF.conv (fun w => .bool w) (fun w => []) (show (false) = (listEq recEq a b) from by first | (rw [listEq_len (by omega)]; done) | (rw [hR, dropCons he1, dropCons he2, listEq]; simp [eqI, *]; done) | (rw [hR, List.drop_of_length_le (by omega), List.drop_of_length_le (by omega)]; rfl)) ?_
    exact KF.mk (.inr rfl) [] [.bool false] (by kernel_rfl) (by kernel_rfl) (by kernel_rfl) (by kernel_rfl) (by kernel_rfl)
  · have h1 : (a.length : Int) = (b.length : Int) := by simpa using hb
    clear hb
    refine AW.skip ?_
    refine AW.seq ?_
    refine AW.seq ?_
    refine AW.region (At.start ?_)
    refine At.auto 1 (by kernel_rfl) ?_
    refine At.done rfl ?_
    refine AW.block ?_
    refine AW.loopW (fun (k : Nat) => Go.Sy.mk [.sl false 10 (a.map encRec), .sl false 10 (b.map encRec), .un, .un, .un, .int .i64 (k : Int)] []) (fun (k : Nat) => k ≤ a.length ∧ listEq recEq a b = listEq recEq (a.drop k) (b.drop k)) (fun (k : Nat) => a.length - k) 0 ⟨by omega, by rw [List.drop_zero, List.drop_zero]⟩ (Sub.of [] [true, true, false, false, false, true] _ _ (by kernel_rfl) (by kernel_rfl) (by kernel_rfl)) ?_
    rintro k ⟨hk, hR⟩
    refine AW.seq ?_
    refine AW.seq ?_
    refine AW.region (At.start ?_)
    refine At.auto 3 (by kernel_rfl) ?_
    refine At.say 13 (.int .i64 (((a.map encRec).length : Nat) : Int)) (.int .i64 (a.length : Int)) (by kernel_rfl) (sayLen _ _) ?_
    refine At.auto 1 (by kernel_rfl) ?_
    refine At.done rfl ?_
    refine AW.cond (decide ((k : Int) < (a.length : Int))) (by kernel_rfl) (fun hb => ?_) (fun hb => ?_)
    · have h2 : (k : Int) < (a.length : Int) := by simpa using hb
      clear hb
      refine AW.skip ?_
      refine AW.seq ?_
      refine AW.block ?_
      refine AW.seq ?_
      refine AW.regionD Try_mix (At.start ?_)
      refine At.auto 2 (by kernel_rfl) ?_
      refine At.idxSl (t := 45) (d := 19) (x := .tmp 17) (y := .tmp 18) (p := false) (es := 10) (xs := (a.map encRec)) (kd := .i64) (i := (k : Int)) (e := 93) (by kernel_rfl) (by kernel_rfl) (by kernel_rfl) (by kernel_rfl) (by omega) (by first | omega | (simp only [List.length_map, List.length_append, List.length_take, List.length_drop, List.length_replicate, List.length_set, List.length_cons, List.length_nil]; omega)) ?_
      refine Exists.elim (show ∃ e, a[k]? = some e from ⟨_, List.getElem?_eq_getElem (by first | omega | (simp only [List.length_map, List.length_append, List.length_take, List.length_drop, List.length_replicate, List.length_set, List.length_cons, List.length_nil]; omega))⟩) fun e1 he1 => ?_
      refine At.ldVp (t := 93) (d := 20) (x := .tmp 19) (p := false) (es := 10) (xs := (a.map encRec)) (j := k) (off := 0) (b := true) (m := 10) (encRec e1) (.agg [.int .i64 e1.kind, .int .i64 e1.term, .int .i64 e1.vote, .int .i64 e1.at_, .int .i64 e1.entry.term, .int .i64 e1.entry.cmd.kind, .int .i64 e1.entry.cmd.release, .int .i64 e1.entry.cmd.node, .int .i64 e1.entry.cmd.size, .str e1.entry.cmd.digest]) (by kernel_rfl) (by kernel_rfl) (by kernel_rfl) (by kernel_rfl) (mapGet he1) (by kernel_rfl) ?_
      refine At.auto 2 (by kernel_rfl) ?_
      refine At.idxSl (t := 45) (d := 23) (x := .tmp 21) (y := .tmp 22) (p := false) (es := 10) (xs := (b.map encRec)) (kd := .i64) (i := (k : Int)) (e := 93) (by kernel_rfl) (by kernel_rfl) (by kernel_rfl) (by kernel_rfl) (by omega) (by first | omega | (simp only [List.length_map, List.length_append, List.length_take, List.length_drop, List.length_replicate, List.length_set, List.length_cons, List.length_nil]; omega)) ?_
      refine Exists.elim (show ∃ e, b[k]? = some e from ⟨_, List.getElem?_eq_getElem (by first | omega | (simp only [List.length_map, List.length_append, List.length_take, List.length_drop, List.length_replicate, List.length_set, List.length_cons, List.length_nil]; omega))⟩) fun e2 he2 => ?_
      refine At.ldVp (t := 93) (d := 24) (x := .tmp 23) (p := false) (es := 10) (xs := (b.map encRec)) (j := k) (off := 0) (b := true) (m := 10) (encRec e2) (.agg [.int .i64 e2.kind, .int .i64 e2.term, .int .i64 e2.vote, .int .i64 e2.at_, .int .i64 e2.entry.term, .int .i64 e2.entry.cmd.kind, .int .i64 e2.entry.cmd.release, .int .i64 e2.entry.cmd.node, .int .i64 e2.entry.cmd.size, .str e2.entry.cmd.digest]) (by kernel_rfl) (by kernel_rfl) (by kernel_rfl) (by kernel_rfl) (mapGet he2) (by kernel_rfl) ?_
      refine At.call (laws_eqRec_spec  e1 e2 ) Try.call60 true [] [] [] (by kernel_rfl) (by kernel_rfl) (by kernel_rfl) (by kernel_rfl) (by kernel_rfl) trivial ?_
      refine At.auto 1 (by kernel_rfl) ?_
      refine At.done rfl ⟨by kernel_rfl, ?_⟩
      refine AW.cond (!(recEq e1 e2)) (by kernel_rfl) (fun hb => ?_) (fun hb => ?_)
      · have h3 : (recEq e1 e2) = false := by simpa using hb
        clear hb
        refine AW.seq ?_
        refine AW.region (At.start ?_)
        refine At.auto 1 (by kernel_rfl) ?_
        refine At.done rfl ?_
        refine AW.ret ?_
        refine ⟨_, Sub.refl _ _, ?_⟩
        refine KF.conv (fun w => .bool w) (fun w => []) (show (false) = (listEq recEq a b) from by first | (rw [listEq_len (by omega)]; done) | (rw [hR, dropCons he1, dropCons he2, listEq]; simp [eqI, *]; done) | (rw [hR, List.drop_of_length_le (by omega), List.drop_of_length_le (by omega)]; rfl)) ?_
        exact KF.mk (.inr rfl) [] [.bool false] (by kernel_rfl) (by kernel_rfl) (by kernel_rfl) (by kernel_rfl) (by kernel_rfl)
      · have h3 : (recEq e1 e2) = true := by simpa using hb
        clear hb
        refine AW.skip ?_
        refine AW.region (At.start ?_)
        refine At.auto 2 (by kernel_rfl) ?_
        refine At.say 16 (.int .i64 (IntKind.i64.wrap ((k : Int) + 1))) (.int .i64 ((k : Int) + 1)) (by kernel_rfl) (sayI _ (by omega)) ?_
        refine At.auto 1 (by kernel_rfl) ?_
        refine At.done rfl ?_
        exact ⟨k + 1, ⟨by omega, by rw [hR, dropCons he1, dropCons he2, listEq]; simp [eqI, *]⟩, (by omega), Sub.of [] [true, true, false, false, false, true] _ _ (by kernel_rfl) (by kernel_rfl) (by kernel_rfl)⟩
    · have h2 : ¬ ((k : Int) < (a.length : Int)) := by simpa using hb
      clear hb
      refine AW.exit ?_
      refine AW.seq ?_
      refine AW.region (At.start ?_)
      refine At.auto 1 (by kernel_rfl) ?_
      refine At.done rfl ?_
      refine AW.ret ?_
      refine ⟨_, Sub.refl _ _, ?_⟩
      refine KF.conv (fun w => .bool w) (fun w => []) (show (true) = (listEq recEq a b) from by first | (rw [listEq_len (by omega)]; done) | (rw [hR, dropCons he1, dropCons he2, listEq]; simp [eqI, *]; done) | (rw [hR, List.drop_of_length_le (by omega), List.drop_of_length_le (by omega)]; rfl)) ?_
      exact KF.mk (.inr rfl) [] [.bool true] (by kernel_rfl) (by kernel_rfl) (by kernel_rfl) (by kernel_rfl) (by kernel_rfl)
set_option maxRecDepth 100000 in
set_option maxHeartbeats 4000000 in
theorem laws_eqMsg_spec  (a : Msg) (b : Msg) (ha : a.entries.length ≤ 1048576) (hb : b.entries.length ≤ 1048576) : FnSpec Try.prog 30 [.agg [.int .i64 a.kind, .int .i64 a.from_, .int .i64 a.term, .int .i64 a.at_, .int .i64 a.atTerm, .int .i64 a.commit, .bool a.yes, .int .i64 a.release, .int .i64 a.part, .str a.bytes, .int .i64 a.cmd.kind, .int .i64 a.cmd.release, .int .i64 a.cmd.node, .int .i64 a.cmd.size, .str a.cmd.digest, .sl false 6 (a.entries.map encEnt)], .agg [.int .i64 b.kind, .int .i64 b.from_, .int .i64 b.term, .int .i64 b.at_, .int .i64 b.atTerm, .int .i64 b.commit, .bool b.yes, .int .i64 b.release, .int .i64 b.part, .str b.bytes, .int .i64 b.cmd.kind, .int .i64 b.cmd.release, .int .i64 b.cmd.node, .int .i64 b.cmd.size, .str b.cmd.digest, .sl false 6 (b.entries.map encEnt)]] [] (.bool (msgEq a b)) [] := by
  refine FnSpec.of 67 Try.func30 rfl Try.ntmps30 (by simp) (AW.weakK ?_)
  refine AW.seq ?_
  refine AW.region (At.start ?_)
  refine At.auto 3 (by kernel_rfl) ?_
  refine At.done rfl ?_
  refine AW.seq ?_
  refine AW.seq ?_
  refine AW.region (At.start ?_)
  refine At.auto 5 (by kernel_rfl) ?_
  refine At.done rfl ?_
  refine AW.cond (a.kind != b.kind) (by kernel_rfl) (fun hb => ?_) (fun hb => ?_)
  · have h1 : ¬ (a.kind = b.kind) := by simpa using hb
    clear hb
    refine AW.seq ?_
    refine AW.region (At.start ?_)
    refine At.auto 1 (by kernel_rfl) ?_
    refine At.done rfl ?_
    refine AW.ret ?_
    refine ⟨_, Sub.refl _ _, ?_⟩
    refine KF.conv (fun w => .bool w) (fun w => []) (show (false) = (msgEq a b) from by simp [msgEq, h1]) ?_
    exact KF.mk (.inr rfl) [] [.bool false] (by kernel_rfl) (by kernel_rfl) (by kernel_rfl) (by kernel_rfl) (by kernel_rfl)
  · have h1 : a.kind = b.kind := by simpa using hb
    clear hb
    refine AW.skip ?_
    refine AW.seq ?_
    refine AW.seq ?_
    refine AW.region (At.start ?_)
    refine At.auto 5 (by kernel_rfl) ?_
    refine At.done rfl ?_
    refine AW.cond (a.from_ != b.from_) (by kernel_rfl) (fun hb => ?_) (fun hb => ?_)
    · have h2 : ¬ (a.from_ = b.from_) := by simpa using hb
      clear hb
      refine AW.seq ?_
      refine AW.region (At.start ?_)
      refine At.auto 1 (by kernel_rfl) ?_
      refine At.done rfl ?_
      refine AW.ret ?_
      refine ⟨_, Sub.refl _ _, ?_⟩
      refine KF.conv (fun w => .bool w) (fun w => []) (show (false) = (msgEq a b) from by simp [msgEq, h1, h2]) ?_
      exact KF.mk (.inr rfl) [] [.bool false] (by kernel_rfl) (by kernel_rfl) (by kernel_rfl) (by kernel_rfl) (by kernel_rfl)
    · have h2 : a.from_ = b.from_ := by simpa using hb
      clear hb
      refine AW.skip ?_
      refine AW.seq ?_
      refine AW.seq ?_
      refine AW.region (At.start ?_)
      refine At.auto 5 (by kernel_rfl) ?_
      refine At.done rfl ?_
      refine AW.cond (a.term != b.term) (by kernel_rfl) (fun hb => ?_) (fun hb => ?_)
      · have h3 : ¬ (a.term = b.term) := by simpa using hb
        clear hb
        refine AW.seq ?_
        refine AW.region (At.start ?_)
        refine At.auto 1 (by kernel_rfl) ?_
        refine At.done rfl ?_
        refine AW.ret ?_
        refine ⟨_, Sub.refl _ _, ?_⟩
        refine KF.conv (fun w => .bool w) (fun w => []) (show (false) = (msgEq a b) from by simp [msgEq, h1, h2, h3]) ?_
        exact KF.mk (.inr rfl) [] [.bool false] (by kernel_rfl) (by kernel_rfl) (by kernel_rfl) (by kernel_rfl) (by kernel_rfl)
      · have h3 : a.term = b.term := by simpa using hb
        clear hb
        refine AW.skip ?_
        refine AW.seq ?_
        refine AW.seq ?_
        refine AW.region (At.start ?_)
        refine At.auto 5 (by kernel_rfl) ?_
        refine At.done rfl ?_
        refine AW.cond (a.at_ != b.at_) (by kernel_rfl) (fun hb => ?_) (fun hb => ?_)
        · have h4 : ¬ (a.at_ = b.at_) := by simpa using hb
          clear hb
          refine AW.seq ?_
          refine AW.region (At.start ?_)
          refine At.auto 1 (by kernel_rfl) ?_
          refine At.done rfl ?_
          refine AW.ret ?_
          refine ⟨_, Sub.refl _ _, ?_⟩
          refine KF.conv (fun w => .bool w) (fun w => []) (show (false) = (msgEq a b) from by simp [msgEq, h1, h2, h3, h4]) ?_
          exact KF.mk (.inr rfl) [] [.bool false] (by kernel_rfl) (by kernel_rfl) (by kernel_rfl) (by kernel_rfl) (by kernel_rfl)
        · have h4 : a.at_ = b.at_ := by simpa using hb
          clear hb
          refine AW.skip ?_
          refine AW.seq ?_
          refine AW.seq ?_
          refine AW.region (At.start ?_)
          refine At.auto 5 (by kernel_rfl) ?_
          refine At.done rfl ?_
          refine AW.cond (a.atTerm != b.atTerm) (by kernel_rfl) (fun hb => ?_) (fun hb => ?_)
          · have h5 : ¬ (a.atTerm = b.atTerm) := by simpa using hb
            clear hb
            refine AW.seq ?_
            refine AW.region (At.start ?_)
            refine At.auto 1 (by kernel_rfl) ?_
            refine At.done rfl ?_
            refine AW.ret ?_
            refine ⟨_, Sub.refl _ _, ?_⟩
            refine KF.conv (fun w => .bool w) (fun w => []) (show (false) = (msgEq a b) from by simp [msgEq, h1, h2, h3, h4, h5]) ?_
            exact KF.mk (.inr rfl) [] [.bool false] (by kernel_rfl) (by kernel_rfl) (by kernel_rfl) (by kernel_rfl) (by kernel_rfl)
          · have h5 : a.atTerm = b.atTerm := by simpa using hb
            clear hb
            refine AW.skip ?_
            refine AW.seq ?_
            refine AW.seq ?_
            refine AW.region (At.start ?_)
            refine At.auto 5 (by kernel_rfl) ?_
            refine At.done rfl ?_
            refine AW.cond (a.commit != b.commit) (by kernel_rfl) (fun hb => ?_) (fun hb => ?_)
            · have h6 : ¬ (a.commit = b.commit) := by simpa using hb
              clear hb
              refine AW.seq ?_
              refine AW.region (At.start ?_)
              refine At.auto 1 (by kernel_rfl) ?_
              refine At.done rfl ?_
              refine AW.ret ?_
              refine ⟨_, Sub.refl _ _, ?_⟩
              refine KF.conv (fun w => .bool w) (fun w => []) (show (false) = (msgEq a b) from by simp [msgEq, h1, h2, h3, h4, h5, h6]) ?_
              exact KF.mk (.inr rfl) [] [.bool false] (by kernel_rfl) (by kernel_rfl) (by kernel_rfl) (by kernel_rfl) (by kernel_rfl)
            · have h6 : a.commit = b.commit := by simpa using hb
              clear hb
              refine AW.skip ?_
              refine AW.seq ?_
              refine AW.seq ?_
              refine AW.region (At.start ?_)
              refine At.auto 4 (by kernel_rfl) ?_
              refine At.eqB (t := 4) (u := 4) (d := 39) (op := .neq) (x := .tmp 36) (y := .tmp 38) (a := a.yes) (b := b.yes) (by kernel_rfl) (by kernel_rfl) (by kernel_rfl) (by kernel_rfl) (by kernel_rfl) (.bool (!(a.yes == b.yes))) (.inr ⟨rfl, rfl⟩) ?_
              refine At.done rfl ?_
              refine AW.cond (!(a.yes == b.yes)) (by kernel_rfl) (fun hb => ?_) (fun hb => ?_)
              · have h7 : (a.yes == b.yes) = false := by simpa using hb
                clear hb
                refine AW.seq ?_
                refine AW.region (At.start ?_)
                refine At.auto 1 (by kernel_rfl) ?_
                refine At.done rfl ?_
                refine AW.ret ?_
                refine ⟨_, Sub.refl _ _, ?_⟩
                refine KF.conv (fun w => .bool w) (fun w => []) (show (false) = (msgEq a b) from by simp [msgEq, h1, h2, h3, h4, h5, h6, h7]) ?_
                exact KF.mk (.inr rfl) [] [.bool false] (by kernel_rfl) (by kernel_rfl) (by kernel_rfl) (by kernel_rfl) (by kernel_rfl)
              · have h7 : (a.yes == b.yes) = true := by simpa using hb
                clear hb
                refine AW.skip ?_
                refine AW.seq ?_
                refine AW.seq ?_
                refine AW.region (At.start ?_)
                refine At.auto 5 (by kernel_rfl) ?_
                refine At.done rfl ?_
                refine AW.cond (a.release != b.release) (by kernel_rfl) (fun hb => ?_) (fun hb => ?_)
                · have h8 : ¬ (a.release = b.release) := by simpa using hb
                  clear hb
                  refine AW.seq ?_
                  refine AW.region (At.start ?_)
                  refine At.auto 1 (by kernel_rfl) ?_
                  refine At.done rfl ?_
                  refine AW.ret ?_
                  refine ⟨_, Sub.refl _ _, ?_⟩
                  refine KF.conv (fun w => .bool w) (fun w => []) (show (false) = (msgEq a b) from by simp [msgEq, h1, h2, h3, h4, h5, h6, h7, h8]) ?_
                  exact KF.mk (.inr rfl) [] [.bool false] (by kernel_rfl) (by kernel_rfl) (by kernel_rfl) (by kernel_rfl) (by kernel_rfl)
                · have h8 : a.release = b.release := by simpa using hb
                  clear hb
                  refine AW.skip ?_
                  refine AW.seq ?_
                  refine AW.seq ?_
                  refine AW.region (At.start ?_)
                  refine At.auto 5 (by kernel_rfl) ?_
                  refine At.done rfl ?_
                  refine AW.cond (a.part != b.part) (by kernel_rfl) (fun hb => ?_) (fun hb => ?_)
                  · have h9 : ¬ (a.part = b.part) := by simpa using hb
                    clear hb
                    refine AW.seq ?_
                    refine AW.region (At.start ?_)
                    refine At.auto 1 (by kernel_rfl) ?_
                    refine At.done rfl ?_
                    refine AW.ret ?_
                    refine ⟨_, Sub.refl _ _, ?_⟩
                    refine KF.conv (fun w => .bool w) (fun w => []) (show (false) = (msgEq a b) from by simp [msgEq, h1, h2, h3, h4, h5, h6, h7, h8, h9]) ?_
                    exact KF.mk (.inr rfl) [] [.bool false] (by kernel_rfl) (by kernel_rfl) (by kernel_rfl) (by kernel_rfl) (by kernel_rfl)
                  · have h9 : a.part = b.part := by simpa using hb
                    clear hb
                    refine AW.skip ?_
                    refine AW.seq ?_
                    refine AW.seq ?_
                    refine AW.region (At.start ?_)
                    refine At.auto 5 (by kernel_rfl) ?_
                    refine At.done rfl ?_
                    refine AW.cond (!(a.bytes.toList == b.bytes.toList)) (by kernel_rfl) (fun hb => ?_) (fun hb => ?_)
                    · have h10 : ¬ (a.bytes.toList = b.bytes.toList) := by simpa using hb
                      clear hb
                      refine AW.seq ?_
                      refine AW.region (At.start ?_)
                      refine At.auto 1 (by kernel_rfl) ?_
                      refine At.done rfl ?_
                      refine AW.ret ?_
                      refine ⟨_, Sub.refl _ _, ?_⟩
                      refine KF.conv (fun w => .bool w) (fun w => []) (show (false) = (msgEq a b) from by simp [msgEq, h1, h2, h3, h4, h5, h6, h7, h8, h9, h10]) ?_
                      exact KF.mk (.inr rfl) [] [.bool false] (by kernel_rfl) (by kernel_rfl) (by kernel_rfl) (by kernel_rfl) (by kernel_rfl)
                    · have h10 : a.bytes.toList = b.bytes.toList := by simpa using hb
                      clear hb
                      refine AW.skip ?_
                      refine AW.seq ?_
                      refine AW.seq ?_
                      refine AW.region (At.start ?_)
                      refine At.auto 4 (by kernel_rfl) ?_
                      refine At.call (laws_eqCmd_spec  a.cmd b.cmd ) Try.call75 true [] [] [] (by kernel_rfl) (by kernel_rfl) (by kernel_rfl) (by kernel_rfl) (by kernel_rfl) trivial ?_
                      refine At.auto 1 (by kernel_rfl) ?_
                      refine At.done rfl ?_
                      refine AW.cond (!(cmdEq a.cmd b.cmd)) (by kernel_rfl) (fun hb => ?_) (fun hb => ?_)
                      · have h11 : (cmdEq a.cmd b.cmd) = false := by simpa using hb
                        clear hb
                        refine AW.seq ?_
                        refine AW.region (At.start ?_)
                        refine At.auto 1 (by kernel_rfl) ?_
                        refine At.done rfl ?_
                        refine AW.ret ?_
                        refine ⟨_, Sub.refl _ _, ?_⟩
                        refine KF.conv (fun w => .bool w) (fun w => []) (show (false) = (msgEq a b) from by simp [msgEq, h1, h2, h3, h4, h5, h6, h7, h8, h9, h10, h11]) ?_
                        exact KF.mk (.inr rfl) [] [.bool false] (by kernel_rfl) (by kernel_rfl) (by kernel_rfl) (by kernel_rfl) (by kernel_rfl)
                      · have h11 : (cmdEq a.cmd b.cmd) = true := by simpa using hb
                        clear hb
                        refine AW.skip ?_
                        refine AW.seq ?_
                        refine AW.seq ?_
                        refine AW.region (At.start ?_)
                        refine At.auto 4 (by kernel_rfl) ?_
                        refine At.call (laws_eqEntryS_spec  a.entries b.entries (by first | omega | (dsimp only; omega) | (simp only [List.length_map, List.length_append, List.length_take, List.length_drop, List.length_replicate, List.length_set, List.length_cons, List.length_nil]; omega)) (by first | omega | (dsimp only; omega) | (simp only [List.length_map, List.length_append, List.length_take, List.length_drop, List.length_replicate, List.length_set, List.length_cons, List.length_nil]; omega))) Try.call76 true [] [] [] (by kernel_rfl) (by kernel_rfl) (by kernel_rfl) (by kernel_rfl) (by kernel_rfl) trivial ?_
                        refine At.auto 1 (by kernel_rfl) ?_
                        refine At.done rfl ?_
                        refine AW.cond (!(listEq entEq a.entries b.entries)) (by kernel_rfl) (fun hb => ?_) (fun hb => ?_)
                        · have h12 : (listEq entEq a.entries b.entries) = false := by simpa using hb
                          clear hb
                          refine AW.seq ?_
                          refine AW.region (At.start ?_)
                          refine At.auto 1 (by kernel_rfl) ?_
                          refine At.done rfl ?_
                          refine AW.ret ?_
                          refine ⟨_, Sub.refl _ _, ?_⟩
                          refine KF.conv (fun w => .bool w) (fun w => []) (show (false) = (msgEq a b) from by simp [msgEq, h1, h2, h3, h4, h5, h6, h7, h8, h9, h10, h11, h12]) ?_
                          exact KF.mk (.inr rfl) [] [.bool false] (by kernel_rfl) (by kernel_rfl) (by kernel_rfl) (by kernel_rfl) (by kernel_rfl)
                        · have h12 : (listEq entEq a.entries b.entries) = true := by simpa using hb
                          clear hb
                          refine AW.skip ?_
                          refine AW.seq ?_
                          refine AW.region (At.start ?_)
                          refine At.auto 1 (by kernel_rfl) ?_
                          refine At.done rfl ?_
                          refine AW.ret ?_
                          refine ⟨_, Sub.refl _ _, ?_⟩
                          refine KF.conv (fun w => .bool w) (fun w => []) (show (true) = (msgEq a b) from by simp [msgEq, h1, h2, h3, h4, h5, h6, h7, h8, h9, h10, h11, h12]) ?_
                          exact KF.mk (.inr rfl) [] [.bool true] (by kernel_rfl) (by kernel_rfl) (by kernel_rfl) (by kernel_rfl) (by kernel_rfl)
set_option maxRecDepth 100000 in
set_option maxHeartbeats 4000000 in
theorem laws_eqOut_spec  (a : Out) (b : Out) (ha : a.msg.entries.length ≤ 1048576) (hb : b.msg.entries.length ≤ 1048576) : FnSpec Try.prog 43 [.agg [.int .i64 a.to, .int .i64 a.msg.kind, .int .i64 a.msg.from_, .int .i64 a.msg.term, .int .i64 a.msg.at_, .int .i64 a.msg.atTerm, .int .i64 a.msg.commit, .bool a.msg.yes, .int .i64 a.msg.release, .int .i64 a.msg.part, .str a.msg.bytes, .int .i64 a.msg.cmd.kind, .int .i64 a.msg.cmd.release, .int .i64 a.msg.cmd.node, .int .i64 a.msg.cmd.size, .str a.msg.cmd.digest, .sl false 6 (a.msg.entries.map encEnt)], .agg [.int .i64 b.to, .int .i64 b.msg.kind, .int .i64 b.msg.from_, .int .i64 b.msg.term, .int .i64 b.msg.at_, .int .i64 b.msg.atTerm, .int .i64 b.msg.commit, .bool b.msg.yes, .int .i64 b.msg.release, .int .i64 b.msg.part, .str b.msg.bytes, .int .i64 b.msg.cmd.kind, .int .i64 b.msg.cmd.release, .int .i64 b.msg.cmd.node, .int .i64 b.msg.cmd.size, .str b.msg.cmd.digest, .sl false 6 (b.msg.entries.map encEnt)]] [] (.bool (outEq a b)) [] := by
  refine FnSpec.of 16 Try.func43 rfl Try.ntmps43 (by simp) (AW.weakK ?_)
  refine AW.seq ?_
  refine AW.region (At.start ?_)
  refine At.auto 3 (by kernel_rfl) ?_
  refine At.done rfl ?_
  refine AW.seq ?_
  refine AW.seq ?_
  refine AW.region (At.start ?_)
  refine At.auto 5 (by kernel_rfl) ?_
  refine At.done rfl ?_
  refine AW.cond (a.to != b.to) (by kernel_rfl) (fun hb => ?_) (fun hb => ?_)
  · have h1 : ¬ (a.to = b.to) := by simpa using hb
    clear hb
    refine AW.seq ?_
    refine AW.region (At.start ?_)
    refine At.auto 1 (by kernel_rfl) ?_
    refine At.done rfl ?_
    refine AW.ret ?_
    refine ⟨_, Sub.refl _ _, ?_⟩
    refine KF.conv (fun w => .bool w) (fun w => []) (show (false) = (outEq a b) from by simp [outEq, h1]) ?_
    exact KF.mk (.inr rfl) [] [.bool false] (by kernel_rfl) (by kernel_rfl) (by kernel_rfl) (by kernel_rfl) (by kernel_rfl)
  · have h1 : a.to = b.to := by simpa using hb
    clear hb
    refine AW.skip ?_
    refine AW.seq ?_
    refine AW.seq ?_
    refine AW.region (At.start ?_)
    refine At.auto 4 (by kernel_rfl) ?_
    refine At.call (laws_eqMsg_spec  a.msg b.msg (by first | omega | (dsimp only; omega) | (simp only [List.length_map, List.length_append, List.length_take, List.length_drop, List.length_replicate, List.length_set, List.length_cons, List.length_nil]; omega)) (by first | omega | (dsimp only; omega) | (simp only [List.length_map, List.length_append, List.length_take, List.length_drop, List.length_replicate, List.length_set, List.length_cons, List.length_nil]; omega))) Try.call30 true [] [] [] (by kernel_rfl) (by kernel_rfl) (by kernel_rfl) (by kernel_rfl) (by kernel_rfl) trivial ?_
    refine At.auto 1 (by kernel_rfl) ?_
    refine At.done rfl ?_
    refine AW.cond (!(msgEq a.msg b.msg)) (by kernel_rfl) (fun hb => ?_) (fun hb => ?_)
    · have h2 : (msgEq a.msg b.msg) = false := by simpa using hb
      clear hb
      refine AW.seq ?_
      refine AW.region (At.start ?_)
      refine At.auto 1 (by kernel_rfl) ?_
      refine At.done rfl ?_
      refine AW.ret ?_
      refine ⟨_, Sub.refl _ _, ?_⟩
      refine KF.conv (fun w => .bool w) (fun w => []) (show (false) = (outEq a b) from by simp [outEq, h1, h2]) ?_
      exact KF.mk (.inr rfl) [] [.bool false] (by kernel_rfl) (by kernel_rfl) (by kernel_rfl) (by kernel_rfl) (by kernel_rfl)
    · have h2 : (msgEq a.msg b.msg) = true := by simpa using hb
      clear hb
      refine AW.skip ?_
      refine AW.seq ?_
      refine AW.region (At.start ?_)
      refine At.auto 1 (by kernel_rfl) ?_
      refine At.done rfl ?_
      refine AW.ret ?_
      refine ⟨_, Sub.refl _ _, ?_⟩
      refine KF.conv (fun w => .bool w) (fun w => []) (show (true) = (outEq a b) from by simp [outEq, h1, h2]) ?_
      exact KF.mk (.inr rfl) [] [.bool true] (by kernel_rfl) (by kernel_rfl) (by kernel_rfl) (by kernel_rfl) (by kernel_rfl)
set_option maxRecDepth 100000 in
set_option maxHeartbeats 4000000 in
theorem laws_eqOutS_spec  (a : List Out) (b : List Out) (ha : a.length ≤ 1048576) (hb : b.length ≤ 1048576) (hea : ∀ o ∈ a, o.msg.entries.length ≤ 1048576) (heb : ∀ o ∈ b, o.msg.entries.length ≤ 1048576) : FnSpec Try.prog 11 [.sl false 17 (a.map encOutV), .sl false 17 (b.map encOutV)] [] (.bool (listEq outEq a b)) [] := by
  refine FnSpec.of 27 Try.func11 rfl Try.ntmps11 (by simp) (AW.weakK ?_)
  refine AW.seq ?_
  refine AW.region (At.start ?_)
  refine At.auto 1 (by kernel_rfl) ?_
  refine At.done rfl ?_
  refine AW.seq ?_
  refine AW.seq ?_
  refine AW.region (At.start ?_)
  refine At.auto 2 (by kernel_rfl) ?_
  refine At.say 7 (.int .i64 (((a.map encOutV).length : Nat) : Int)) (.int .i64 (a.length : Int)) (by kernel_rfl) (sayLen _ _) ?_
  refine At.auto 2 (by kernel_rfl) ?_
  refine At.say 9 (.int .i64 (((b.map encOutV).length : Nat) : Int)) (.int .i64 (b.length : Int)) (by kernel_rfl) (sayLen _ _) ?_
  refine At.auto 1 (by kernel_rfl) ?_
  refine At.done rfl ?_
  refine AW.cond ((a.length : Int) != (b.length : Int)) (by kernel_rfl) (fun hb => ?_) (fun hb => ?_)
  · have h1 : ¬ ((a.length : Int) = (b.length : Int)) := by simpa using hb
    clear hb
    refine AW.seq ?_
    refine AW.region (At.start ?_)
    refine At.auto 1 (by kernel_rfl) ?_
    refine At.done rfl ?_
    refine AW.ret ?_
    refine ⟨_, Sub.refl _ _, ?_⟩
    refine KF.conv (fun w => .bool w) (fun w => []) (show (false) = (listEq outEq a b) from by first | (rw [listEq_len (by omega)]; done) | (rw [hR, dropCons he1, dropCons he2, listEq]; simp [*]; done) | (rw [hR, List.drop_of_length_le (by omega), List.drop_of_length_le (by omega)]; rfl)) ?_
    exact KF.mk (.inr rfl) [] [.bool false] (by kernel_rfl) (by kernel_rfl) (by kernel_rfl) (by kernel_rfl) (by kernel_rfl)
  · have h1 : (a.length : Int) = (b.length : Int) := by simpa using hb
    clear hb
    refine AW.skip ?_
    refine AW.seq ?_
    refine AW.seq ?_
    refine AW.region (At.start ?_)
    refine At.auto 1 (by kernel_rfl) ?_
    refine At.done rfl ?_
    refine AW.block ?_
    refine AW.loopW (fun (k : Nat) => Go.Sy.mk [.sl false 17 (a.map encOutV), .sl false 17 (b.map encOutV), .un, .un, .un, .int .i64 (k : Int)] []) (fun (k : Nat) => k ≤ a.length ∧ listEq outEq a b = listEq outEq (a.drop k) (b.drop k)) (fun (k : Nat) => a.length - k) 0 ⟨by omega, by rw [List.drop_zero, List.drop_zero]⟩ (Sub.of [] [true, true, false, false, false, true] _ _ (by kernel_rfl) (by kernel_rfl) (by kernel_rfl)) ?_
    rintro k ⟨hk, hR⟩
    refine AW.seq ?_
    refine AW.seq ?_
    refine AW.region (At.start ?_)
    refine At.auto 3 (by kernel_rfl) ?_
    refine At.say 13 (.int .i64 (((a.map encOutV).length : Nat) : Int)) (.int .i64 (a.length : Int)) (by kernel_rfl) (sayLen _ _) ?_
    refine At.auto 1 (by kernel_rfl) ?_
    refine At.done rfl ?_
    refine AW.cond (decide ((k : Int) < (a.length : Int))) (by kernel_rfl) (fun hb => ?_) (fun hb => ?_)
    · have h2 : (k : Int) < (a.length : Int) := by simpa using hb
      clear hb
      refine AW.skip ?_
      refine AW.seq ?_
      refine AW.block ?_
      refine AW.seq ?_
      refine AW.regionD Try_mix (At.start ?_)
      refine At.auto 2 (by kernel_rfl) ?_
      refine At.idxSl (t := 29) (d := 19) (x := .tmp 17) (y := .tmp 18) (p := false) (es := 17) (xs := (a.map encOutV)) (kd := .i64) (i := (k : Int)) (e := 76) (by kernel_rfl) (by kernel_rfl) (by kernel_rfl) (by kernel_rfl) (by omega) (by first | omega | (simp only [List.length_map, List.length_append, List.length_take, List.length_drop, List.length_replicate, List.length_set, List.length_cons, List.length_nil]; omega)) ?_
      refine Exists.elim (show ∃ e, a[k]? = some e from ⟨_, List.getElem?_eq_getElem (by first | omega | (simp only [List.length_map, List.length_append, List.length_take, List.length_drop, List.length_replicate, List.length_set, List.length_cons, List.length_nil]; omega))⟩) fun e1 he1 => ?_
      refine At.ldVp (t := 76) (d := 20) (x := .tmp 19) (p := false) (es := 17) (xs := (a.map encOutV)) (j := k) (off := 0) (b := true) (m := 17) (encOutV e1) (.agg [.int .i64 e1.to, .int .i64 e1.msg.kind, .int .i64 e1.msg.from_, .int .i64 e1.msg.term, .int .i64 e1.msg.at_, .int .i64 e1.msg.atTerm, .int .i64 e1.msg.commit, .bool e1.msg.yes, .int .i64 e1.msg.release, .int .i64 e1.msg.part, .str e1.msg.bytes, .int .i64 e1.msg.cmd.kind, .int .i64 e1.msg.cmd.release, .int .i64 e1.msg.cmd.node, .int .i64 e1.msg.cmd.size, .str e1.msg.cmd.digest, .sl false 6 (e1.msg.entries.map encEnt)]) (by kernel_rfl) (by kernel_rfl) (by kernel_rfl) (by kernel_rfl) (mapGet he1) (by kernel_rfl) ?_
      refine At.auto 2 (by kernel_rfl) ?_
      refine At.idxSl (t := 29) (d := 23) (x := .tmp 21) (y := .tmp 22) (p := false) (es := 17) (xs := (b.map encOutV)) (kd := .i64) (i := (k : Int)) (e := 76) (by kernel_rfl) (by kernel_rfl) (by kernel_rfl) (by kernel_rfl) (by omega) (by first | omega | (simp only [List.length_map, List.length_append, List.length_take, List.length_drop, List.length_replicate, List.length_set, List.length_cons, List.length_nil]; omega)) ?_
      refine Exists.elim (show ∃ e, b[k]? = some e from ⟨_, List.getElem?_eq_getElem (by first | omega | (simp only [List.length_map, List.length_append, List.length_take, List.length_drop, List.length_replicate, List.length_set, List.length_cons, List.length_nil]; omega))⟩) fun e2 he2 => ?_
      refine At.ldVp (t := 76) (d := 24) (x := .tmp 23) (p := false) (es := 17) (xs := (b.map encOutV)) (j := k) (off := 0) (b := true) (m := 17) (encOutV e2) (.agg [.int .i64 e2.to, .int .i64 e2.msg.kind, .int .i64 e2.msg.from_, .int .i64 e2.msg.term, .int .i64 e2.msg.at_, .int .i64 e2.msg.atTerm, .int .i64 e2.msg.commit, .bool e2.msg.yes, .int .i64 e2.msg.release, .int .i64 e2.msg.part, .str e2.msg.bytes, .int .i64 e2.msg.cmd.kind, .int .i64 e2.msg.cmd.release, .int .i64 e2.msg.cmd.node, .int .i64 e2.msg.cmd.size, .str e2.msg.cmd.digest, .sl false 6 (e2.msg.entries.map encEnt)]) (by kernel_rfl) (by kernel_rfl) (by kernel_rfl) (by kernel_rfl) (mapGet he2) (by kernel_rfl) ?_
      refine At.call (laws_eqOut_spec  e1 e2 (hea _ (List.mem_of_getElem? he1)) (heb _ (List.mem_of_getElem? he2))) Try.call43 true [] [] [] (by kernel_rfl) (by kernel_rfl) (by kernel_rfl) (by kernel_rfl) (by kernel_rfl) trivial ?_
      refine At.auto 1 (by kernel_rfl) ?_
      refine At.done rfl ⟨by kernel_rfl, ?_⟩
      refine AW.cond (!(outEq e1 e2)) (by kernel_rfl) (fun hb => ?_) (fun hb => ?_)
      · have h3 : (outEq e1 e2) = false := by simpa using hb
        clear hb
        refine AW.seq ?_
        refine AW.region (At.start ?_)
        refine At.auto 1 (by kernel_rfl) ?_
        refine At.done rfl ?_
        refine AW.ret ?_
        refine ⟨_, Sub.refl _ _, ?_⟩
        refine KF.conv (fun w => .bool w) (fun w => []) (show (false) = (listEq outEq a b) from by first | (rw [listEq_len (by omega)]; done) | (rw [hR, dropCons he1, dropCons he2, listEq]; simp [*]; done) | (rw [hR, List.drop_of_length_le (by omega), List.drop_of_length_le (by omega)]; rfl)) ?_
        exact KF.mk (.inr rfl) [] [.bool false] (by kernel_rfl) (by kernel_rfl) (by kernel_rfl) (by kernel_rfl) (by kernel_rfl)
      · have h3 : (outEq e1 e2) = true := by simpa using hb
        clear hb
        refine AW.skip ?_
        refine AW.region (At.start ?_)
        refine At.auto 2 (by kernel_rfl) ?_
        refine At.say 16 (.int .i64 (IntKind.i64.wrap ((k : Int) + 1))) (.int .i64 ((k : Int) + 1)) (by kernel_rfl) (sayI _ (by omega)) ?_
        refine At.auto 1 (by kernel_rfl) ?_
        refine At.done rfl ?_
        exact ⟨k + 1, ⟨by omega, by rw [hR, dropCons he1, dropCons he2, listEq]; simp [*]⟩, (by omega), Sub.of [] [true, true, false, false, false, true] _ _ (by kernel_rfl) (by kernel_rfl) (by kernel_rfl)⟩
    · have h2 : ¬ ((k : Int) < (a.length : Int)) := by simpa using hb
      clear hb
      refine AW.exit ?_
      refine AW.seq ?_
      refine AW.region (At.start ?_)
      refine At.auto 1 (by kernel_rfl) ?_
      refine At.done rfl ?_
      refine AW.ret ?_
      refine ⟨_, Sub.refl _ _, ?_⟩
      refine KF.conv (fun w => .bool w) (fun w => []) (show (true) = (listEq outEq a b) from by first | (rw [listEq_len (by omega)]; done) | (rw [hR, dropCons he1, dropCons he2, listEq]; simp [*]; done) | (rw [hR, List.drop_of_length_le (by omega), List.drop_of_length_le (by omega)]; rfl)) ?_
      exact KF.mk (.inr rfl) [] [.bool true] (by kernel_rfl) (by kernel_rfl) (by kernel_rfl) (by kernel_rfl) (by kernel_rfl)
set_option maxRecDepth 100000 in
set_option maxHeartbeats 4000000 in
theorem laws_markText_spec  (k : Int) (hk : k ≤ 4611686018427387904) : FnSpec Try.prog 48 [.int .i64 k] [] (.str (markT k)) [] := by
  refine FnSpec.of 20 Try.func48 rfl Try.ntmps48 (by simp) (AW.weakK ?_)
  refine AW.seq ?_
  refine AW.region (At.start ?_)
  refine At.auto 1 (by kernel_rfl) ?_
  refine At.done rfl ?_
  refine AW.seq ?_
  refine AW.seq ?_
  refine AW.region (At.start ?_)
  refine At.auto 2 (by kernel_rfl) ?_
  refine At.done rfl ?_
  refine AW.cond (decide (k ≤ 0)) (by kernel_rfl) (fun hb => ?_) (fun hb => ?_)
  · have h1 : k ≤ 0 := by simpa using hb
    clear hb
    refine AW.seq ?_
    refine AW.region (At.start ?_)
    refine At.auto 1 (by kernel_rfl) ?_
    refine At.done rfl ?_
    refine AW.ret ?_
    refine ⟨_, Sub.refl _ _, ?_⟩
    refine KF.conv (fun w => .str w) (fun w => []) (show (⟨#[109, 48]⟩) = (markT k) from by first | (rw [markT, if_pos (by omega)]; done) | (rw [markT, if_neg (by omega), hR, markGo_zero (by assumption)])) ?_
    exact KF.mk (.inr rfl) [] [.str (⟨#[109, 48]⟩)] (by kernel_rfl) (by kernel_rfl) (by kernel_rfl) (by kernel_rfl) (by kernel_rfl)
  · have h1 : ¬ (k ≤ 0) := by simpa using hb
    clear hb
    refine AW.skip ?_
    refine AW.seq ?_
    refine AW.region (At.start ?_)
    refine At.auto 1 (by kernel_rfl) ?_
    refine At.done rfl ?_
    refine AW.seq ?_
    refine AW.block ?_
    refine AW.loopW (fun (x : Int × ByteArray) => match x with | (n, acc) => Go.Sy.mk [.int .i64 n, .un, .un, .str acc] []) (fun (x : Int × ByteArray) => match x with | (n, acc) => 0 ≤ n ∧ (acc.size : Int) + n ≤ k ∧ markGo k.toNat ⟨#[]⟩ = markGo n.toNat acc) (fun (x : Int × ByteArray) => match x with | (n, acc) => n.toNat) (k, ⟨#[]⟩) ⟨by omega, by show ((0 : Nat) : Int) + k ≤ k; omega, rfl⟩ (Sub.of [] [true, false, false, true] _ _ (by kernel_rfl) (by kernel_rfl) (by kernel_rfl)) ?_
    rintro ⟨n, acc⟩ ⟨hn, hs, hR⟩
    refine AW.seq ?_
    refine AW.seq ?_
    refine AW.region (At.start ?_)
    refine At.auto 2 (by kernel_rfl) ?_
    refine At.done rfl ?_
    refine AW.cond (decide (n > 0)) (by kernel_rfl) (fun hb => ?_) (fun hb => ?_)
    · have h2 : n > 0 := by simpa using hb
      clear hb
      refine AW.skip ?_
      refine AW.block ?_
      refine AW.seq ?_
      refine AW.region (At.start ?_)
      refine At.auto 1 (by kernel_rfl) ?_
      refine At.div (t := 3) (u := 3) (d := 9) (op := .rem) (x := .tmp 8) (y := .const (.int .i64 10)) (kd := .i64) (a := n) (b := 10) (by kernel_rfl) (by kernel_rfl) (by kernel_rfl) (by kernel_rfl) (by omega) (.int .i64 (n.tmod 10)) (.inr ⟨rfl, rfl⟩) ?_
      refine At.say 9 (.int .i64 (n.tmod 10)) (.int .i64 (n % 10)) (by kernel_rfl) (sayRem (by omega)) ?_
      refine At.auto 1 (by kernel_rfl) ?_
      refine At.say 10 (.int .i64 (IntKind.i64.wrap (48 + (n % 10)))) (.int .i64 (48 + (n % 10))) (by kernel_rfl) (sayI _ (by omega)) ?_
      refine At.conv (s := 3) (t := 5) (d := 11) (x := .tmp 10) (kd := .i64) (kd' := .u8) (a := 48 + (n % 10)) (.int .u8 ((u8Of (48 + (n % 10))).toNat : Int)) (by kernel_rfl) (by kernel_rfl) (by kernel_rfl) (by kernel_rfl) (sayByte _) ?_
      refine At.litK (t := 113) (d := 12) (e := 5) (es := 1) (bytes := 1) (n := 1) (parts := #[(0, .tmp 11)]) (88, 6) 112 [] [.int .u8 ((u8Of (48 + (n % 10))).toNat : Int)] [.int .u8 ((u8Of (48 + (n % 10))).toNat : Int)] [.int .u8 0] [.int .u8 ((u8Of (48 + (n % 10))).toNat : Int)] [] (by kernel_rfl) (by kernel_rfl) (by kernel_rfl) (by kernel_rfl) rfl (fun p hp => by cases hp) (by kernel_rfl) ?_
      refine At.b2s (s := 113) (t := 9) (e := 5) (d := 13) (x := .tmp 12) (T := .ref 112) ([(u8Of (48 + (n % 10)))]) [] (by kernel_rfl) (by kernel_rfl) (by kernel_rfl) (by kernel_rfl) ⟨by kernel_rfl, .inl ⟨rfl, (allP_encU8 _)⟩⟩ ?_
      refine At.auto 1 (by kernel_rfl) ?_
      refine At.cat (t := 9) (u := 9) (d := 15) (x := .tmp 13) (y := .tmp 14) (a := strOf ([(u8Of (48 + (n % 10)))])) (b := acc) (by kernel_rfl) (by kernel_rfl) (by kernel_rfl) (by kernel_rfl) (by first | (simp only [strOf_size, cat_size, List.length_cons, List.length_nil]; omega) | (have q : (⟨#[109]⟩ : ByteArray).size = 1 := rfl; rw [q]; omega)) ?_
      refine At.auto 1 (by kernel_rfl) ?_
      refine At.done rfl ?_
      refine AW.region (At.start ?_)
      refine At.auto 1 (by kernel_rfl) ?_
      refine At.div (t := 3) (u := 3) (d := 17) (op := .quo) (x := .tmp 16) (y := .const (.int .i64 10)) (kd := .i64) (a := n) (b := 10) (by kernel_rfl) (by kernel_rfl) (by kernel_rfl) (by kernel_rfl) (by omega) (.int .i64 (IntKind.i64.wrap (n.tdiv 10))) (.inl ⟨rfl, rfl⟩) ?_
      refine At.say 17 (.int .i64 (IntKind.i64.wrap (n.tdiv 10))) (.int .i64 (n / 10)) (by kernel_rfl) (sayQuo (by omega) (by omega) (by omega)) ?_
      refine At.auto 1 (by kernel_rfl) ?_
      refine At.done rfl ?_
      exact ⟨((n / 10), ((strOf ([(u8Of (48 + (n % 10)))])) ++ acc)), ⟨by omega, by rw [cat_size, strOf_size]; simp only [List.length_cons, List.length_nil]; omega, by rw [hR, markGo_step (by assumption)]⟩, (by simp only; omega), Sub.of [] [true, false, false, true] _ _ (by kernel_rfl) (by kernel_rfl) (by kernel_rfl)⟩
    · have h2 : ¬ (n > 0) := by simpa using hb
      clear hb
      refine AW.exit ?_
      refine AW.seq ?_
      refine AW.region (At.start ?_)
      refine At.auto 1 (by kernel_rfl) ?_
      refine At.cat (t := 9) (u := 9) (d := 19) (x := .const (.string ⟨#[109]⟩)) (y := .tmp 18) (a := ⟨#[109]⟩) (b := acc) (by kernel_rfl) (by kernel_rfl) (by kernel_rfl) (by kernel_rfl) (by first | (simp only [strOf_size, cat_size, List.length_cons, List.length_nil]; omega) | (have q : (⟨#[109]⟩ : ByteArray).size = 1 := rfl; rw [q]; omega)) ?_
      refine At.auto 1 (by kernel_rfl) ?_
      refine At.done rfl ?_
      refine AW.ret ?_
      refine ⟨_, Sub.refl _ _, ?_⟩
      refine KF.conv (fun w => .str w) (fun w => []) (show ((⟨#[109]⟩) ++ acc) = (markT k) from by first | (rw [markT, if_pos (by omega)]; done) | (rw [markT, if_neg (by omega), hR, markGo_zero (by assumption)])) ?_
      exact KF.mk (.inr rfl) [] [.str ((⟨#[109]⟩) ++ acc)] (by kernel_rfl) (by kernel_rfl) (by kernel_rfl) (by kernel_rfl) (by kernel_rfl)
set_option maxRecDepth 100000 in
set_option maxHeartbeats 4000000 in
theorem laws_markEntryS_spec  (a : List Ent) (k : Int) (hk : 0 ≤ k) (ha : a.length ≤ 1048576) (he : ends nxE a k ≤ 4611686018427387904) : FnSpec Try.prog 49 [.ref 0, .int .i64 k] [.arr 88 6 (a.map encEnt)] (.int .i64 (ends nxE a k)) [.arr 88 6 ((marks markE nxE a k).map encEnt)] := by
  refine FnSpec.of 61 Try.func49 rfl Try.ntmps49 (by simp) (AW.weakK ?_)
  refine AW.seq ?_
  refine AW.region (At.start ?_)
  refine At.auto 1 (by kernel_rfl) ?_
  refine At.done rfl ?_
  refine AW.seq ?_
  refine AW.seq ?_
  refine AW.region (At.start ?_)
  refine At.auto 1 (by kernel_rfl) ?_
  refine At.done rfl ?_
  refine AW.block ?_
  refine AW.loopW (fun (x : Nat × Int × List Ent) => match x with | (i, kk, o) => Go.Sy.mk [.ref 0, .int .i64 kk, .un, .un, .un, .int .i64 (i : Int)] [(0, .arr 88 6 (o.map encEnt))]) (fun (x : Nat × Int × List Ent) => match x with | (i, kk, o) => 0 ≤ kk ∧ MInv markE nxE a k i kk o) (fun (x : Nat × Int × List Ent) => match x with | (i, kk, o) => a.length - i) (0, k, a) ⟨hk, MInv.start⟩ (Sub.of [(0, 0)] [true, true, false, false, false, true] _ _ (by kernel_rfl) (by kernel_rfl) (by kernel_rfl)) ?_
  rintro ⟨i, kk, o⟩ ⟨hkk, hR⟩
  have hle := hR.ge nxE_ge
  have hlo := hR.2.1
  refine AW.seq ?_
  refine AW.seq ?_
  refine AW.region (At.start ?_)
  refine At.auto 3 (by kernel_rfl) ?_
  refine At.say 8 (.int .i64 (((o.map encEnt).length : Nat) : Int)) (.int .i64 (o.length : Int)) (by kernel_rfl) (sayLen _ _) ?_
  refine At.auto 1 (by kernel_rfl) ?_
  refine At.done rfl ?_
  refine AW.cond (decide ((i : Int) < (o.length : Int))) (by kernel_rfl) (fun hb => ?_) (fun hb => ?_)
  · have h1 : (i : Int) < (o.length : Int) := by simpa using hb
    clear hb
    refine AW.skip ?_
    refine AW.seq ?_
    refine AW.block ?_
    refine AW.seq ?_
    refine AW.region (At.start ?_)
    refine At.auto 3 (by kernel_rfl) ?_
    refine At.idxRef (t := 31) (d := 15) (x := .tmp 12) (y := .tmp 13) (j := 0) (xs := (o.map encEnt)) (kd := .i64) (i := (i : Int)) (e := 88) (es := 6) (by kernel_rfl) (by kernel_rfl) (by kernel_rfl) (by kernel_rfl) (by kernel_rfl) (by omega) (by first | omega | (simp only [List.length_map, List.length_append, List.length_take, List.length_drop, List.length_replicate, List.length_set, List.length_cons, List.length_nil]; omega)) ?_
    refine At.auto 1 (by kernel_rfl) ?_
    refine Exists.elim (show ∃ e, o[i]? = some e from ⟨_, List.getElem?_eq_getElem (by first | omega | (simp only [List.length_map, List.length_append, List.length_take, List.length_drop, List.length_replicate, List.length_set, List.length_cons, List.length_nil]; omega))⟩) fun e1 he1 => ?_
    have hlt := hR.le nxE_ge he1
    rw [nxE] at hlt
    refine At.stEl (t := 3) (i := 0) (e := 88) (es := 6) (j := i) (off := 0) (x := .tmp 16) (y := .tmp 14) (xs := (o.map encEnt)) (xs' := ((o.set i (⟨kk, e1.cmd⟩ : Ent)).map encEnt)) (ys := [.int .i64 kk]) (v := .int .i64 kk) (encEnt e1) (encEnt (⟨kk, e1.cmd⟩ : Ent)) (by kernel_rfl) (by kernel_rfl) (by kernel_rfl) (by kernel_rfl) (by kernel_rfl) (mapGet he1) (by kernel_rfl) setV ?_
    refine At.done rfl ?_
    refine AW.seq ?_
    refine AW.region (At.start ?_)
    refine At.auto 2 (by kernel_rfl) ?_
    refine At.say 18 (.int .i64 (IntKind.i64.wrap (kk + 1))) (.int .i64 (kk + 1)) (by kernel_rfl) (sayI _ (by omega)) ?_
    refine At.auto 1 (by kernel_rfl) ?_
    refine At.done rfl ?_
    refine AW.seq ?_
    refine AW.region (At.start ?_)
    refine At.auto 3 (by kernel_rfl) ?_
    refine At.idxRef (t := 31) (d := 22) (x := .tmp 19) (y := .tmp 20) (j := 0) (xs := ((o.set i (⟨kk, e1.cmd⟩ : Ent)).map encEnt)) (kd := .i64) (i := (i : Int)) (e := 88) (es := 6) (by kernel_rfl) (by kernel_rfl) (by kernel_rfl) (by kernel_rfl) (by kernel_rfl) (by omega) (by first | omega | (simp only [List.length_map, List.length_append, List.length_take, List.length_drop, List.length_replicate, List.length_set, List.length_cons, List.length_nil]; omega)) ?_
    refine At.auto 2 (by kernel_rfl) ?_
    refine At.stEl (t := 3) (i := 0) (e := 88) (es := 6) (j := i) (off := 1) (x := .tmp 24) (y := .tmp 21) (xs := ((o.set i (⟨kk, e1.cmd⟩ : Ent)).map encEnt)) (xs' := ((o.set i (⟨kk, ⟨kk + 1, e1.cmd.release, e1.cmd.node, e1.cmd.size, e1.cmd.digest⟩⟩ : Ent)).map encEnt)) (ys := [.int .i64 (kk + 1)]) (v := .int .i64 (kk + 1)) (encEnt (⟨kk, e1.cmd⟩ : Ent)) (encEnt (⟨kk, ⟨kk + 1, e1.cmd.release, e1.cmd.node, e1.cmd.size, e1.cmd.digest⟩⟩ : Ent)) (by kernel_rfl) (by kernel_rfl) (by kernel_rfl) (by kernel_rfl) (by kernel_rfl) (mapGet (setGet he1)) (by kernel_rfl) setSetV ?_
    refine At.done rfl ?_
    refine AW.seq ?_
    refine AW.region (At.start ?_)
    refine At.auto 2 (by kernel_rfl) ?_
    refine At.say 26 (.int .i64 (IntKind.i64.wrap ((kk + 1) + 1))) (.int .i64 (kk + 2)) (by kernel_rfl) (sayJ _ (by omega) (by omega)) ?_
    refine At.auto 1 (by kernel_rfl) ?_
    refine At.done rfl ?_
    refine AW.seq ?_
    refine AW.region (At.start ?_)
    refine At.auto 3 (by kernel_rfl) ?_
    refine At.idxRef (t := 31) (d := 30) (x := .tmp 27) (y := .tmp 28) (j := 0) (xs := ((o.set i (⟨kk, ⟨kk + 1, e1.cmd.release, e1.cmd.node, e1.cmd.size, e1.cmd.digest⟩⟩ : Ent)).map encEnt)) (kd := .i64) (i := (i : Int)) (e := 88) (es := 6) (by kernel_rfl) (by kernel_rfl) (by kernel_rfl) (by kernel_rfl) (by kernel_rfl) (by omega) (by first | omega | (simp only [List.length_map, List.length_append, List.length_take, List.length_drop, List.length_replicate, List.length_set, List.length_cons, List.length_nil]; omega)) ?_
    refine At.auto 2 (by kernel_rfl) ?_
    refine At.stEl (t := 3) (i := 0) (e := 88) (es := 6) (j := i) (off := 2) (x := .tmp 32) (y := .tmp 29) (xs := ((o.set i (⟨kk, ⟨kk + 1, e1.cmd.release, e1.cmd.node, e1.cmd.size, e1.cmd.digest⟩⟩ : Ent)).map encEnt)) (xs' := ((o.set i (⟨kk, ⟨kk + 1, kk + 2, e1.cmd.node, e1.cmd.size, e1.cmd.digest⟩⟩ : Ent)).map encEnt)) (ys := [.int .i64 (kk + 2)]) (v := .int .i64 (kk + 2)) (encEnt (⟨kk, ⟨kk + 1, e1.cmd.release, e1.cmd.node, e1.cmd.size, e1.cmd.digest⟩⟩ : Ent)) (encEnt (⟨kk, ⟨kk + 1, kk + 2, e1.cmd.node, e1.cmd.size, e1.cmd.digest⟩⟩ : Ent)) (by kernel_rfl) (by kernel_rfl) (by kernel_rfl) (by kernel_rfl) (by kernel_rfl) (mapGet (setGet he1)) (by kernel_rfl) setSetV ?_
    refine At.done rfl ?_
    refine AW.seq ?_
    refine AW.region (At.start ?_)
    refine At.auto 2 (by kernel_rfl) ?_
    refine At.say 34 (.int .i64 (IntKind.i64.wrap ((kk + 2) + 1))) (.int .i64 (kk + 3)) (by kernel_rfl) (sayJ _ (by omega) (by omega)) ?_
    refine At.auto 1 (by kernel_rfl) ?_
    refine At.done rfl ?_
    refine AW.seq ?_
    refine AW.region (At.start ?_)
    refine At.auto 3 (by kernel_rfl) ?_
    refine At.idxRef (t := 31) (d := 38) (x := .tmp 35) (y := .tmp 36) (j := 0) (xs := ((o.set i (⟨kk, ⟨kk + 1, kk + 2, e1.cmd.node, e1.cmd.size, e1.cmd.digest⟩⟩ : Ent)).map encEnt)) (kd := .i64) (i := (i : Int)) (e := 88) (es := 6) (by kernel_rfl) (by kernel_rfl) (by kernel_rfl) (by kernel_rfl) (by kernel_rfl) (by omega) (by first | omega | (simp only [List.length_map, List.length_append, List.length_take, List.length_drop, List.length_replicate, List.length_set, List.length_cons, List.length_nil]; omega)) ?_
    refine At.auto 2 (by kernel_rfl) ?_
    refine At.stEl (t := 3) (i := 0) (e := 88) (es := 6) (j := i) (off := 3) (x := .tmp 40) (y := .tmp 37) (xs := ((o.set i (⟨kk, ⟨kk + 1, kk + 2, e1.cmd.node, e1.cmd.size, e1.cmd.digest⟩⟩ : Ent)).map encEnt)) (xs' := ((o.set i (⟨kk, ⟨kk + 1, kk + 2, kk + 3, e1.cmd.size, e1.cmd.digest⟩⟩ : Ent)).map encEnt)) (ys := [.int .i64 (kk + 3)]) (v := .int .i64 (kk + 3)) (encEnt (⟨kk, ⟨kk + 1, kk + 2, e1.cmd.node, e1.cmd.size, e1.cmd.digest⟩⟩ : Ent)) (encEnt (⟨kk, ⟨kk + 1, kk + 2, kk + 3, e1.cmd.size, e1.cmd.digest⟩⟩ : Ent)) (by kernel_rfl) (by kernel_rfl) (by kernel_rfl) (by kernel_rfl) (by kernel_rfl) (mapGet (setGet he1)) (by kernel_rfl) setSetV ?_
    refine At.done rfl ?_
    refine AW.seq ?_
    refine AW.region (At.start ?_)
    refine At.auto 2 (by kernel_rfl) ?_
    refine At.say 42 (.int .i64 (IntKind.i64.wrap ((kk + 3) + 1))) (.int .i64 (kk + 4)) (by kernel_rfl) (sayJ _ (by omega) (by omega)) ?_
    refine At.auto 1 (by kernel_rfl) ?_
    refine At.done rfl ?_
    refine AW.seq ?_
    refine AW.region (At.start ?_)
    refine At.auto 3 (by kernel_rfl) ?_
    refine At.idxRef (t := 31) (d := 46) (x := .tmp 43) (y := .tmp 44) (j := 0) (xs := ((o.set i (⟨kk, ⟨kk + 1, kk + 2, kk + 3, e1.cmd.size, e1.cmd.digest⟩⟩ : Ent)).map encEnt)) (kd := .i64) (i := (i : Int)) (e := 88) (es := 6) (by kernel_rfl) (by kernel_rfl) (by kernel_rfl) (by kernel_rfl) (by kernel_rfl) (by omega) (by first | omega | (simp only [List.length_map, List.length_append, List.length_take, List.length_drop, List.length_replicate, List.length_set, List.length_cons, List.length_nil]; omega)) ?_
    refine At.auto 2 (by kernel_rfl) ?_
    refine At.stEl (t := 3) (i := 0) (e := 88) (es := 6) (j := i) (off := 4) (x := .tmp 48) (y := .tmp 45) (xs := ((o.set i (⟨kk, ⟨kk + 1, kk + 2, kk + 3, e1.cmd.size, e1.cmd.digest⟩⟩ : Ent)).map encEnt)) (xs' := ((o.set i (⟨kk, ⟨kk + 1, kk + 2, kk + 3, kk + 4, e1.cmd.digest⟩⟩ : Ent)).map encEnt)) (ys := [.int .i64 (kk + 4)]) (v := .int .i64 (kk + 4)) (encEnt (⟨kk, ⟨kk + 1, kk + 2, kk + 3, e1.cmd.size, e1.cmd.digest⟩⟩ : Ent)) (encEnt (⟨kk, ⟨kk + 1, kk + 2, kk + 3, kk + 4, e1.cmd.digest⟩⟩ : Ent)) (by kernel_rfl) (by kernel_rfl) (by kernel_rfl) (by kernel_rfl) (by kernel_rfl) (mapGet (setGet he1)) (by kernel_rfl) setSetV ?_
    refine At.done rfl ?_
    refine AW.seq ?_
    refine AW.region (At.start ?_)
    refine At.auto 2 (by kernel_rfl) ?_
    refine At.say 50 (.int .i64 (IntKind.i64.wrap ((kk + 4) + 1))) (.int .i64 (kk + 5)) (by kernel_rfl) (sayJ _ (by omega) (by omega)) ?_
    refine At.auto 1 (by kernel_rfl) ?_
    refine At.done rfl ?_
    refine AW.seq ?_
    refine AW.region (At.start ?_)
    refine At.auto 3 (by kernel_rfl) ?_
    refine At.call (laws_markText_spec  (kk + 5) (by first | omega | (dsimp only; omega) | (simp only [List.length_map, List.length_append, List.length_take, List.length_drop, List.length_replicate, List.length_set, List.length_cons, List.length_nil]; omega))) Try.call48 true [] [] [] (by kernel_rfl) (by kernel_rfl) (by kernel_rfl) (by kernel_rfl) (by kernel_rfl) trivial ?_
    refine At.idxRef (t := 31) (d := 55) (x := .tmp 51) (y := .tmp 52) (j := 0) (xs := ((o.set i (⟨kk, ⟨kk + 1, kk + 2, kk + 3, kk + 4, e1.cmd.digest⟩⟩ : Ent)).map encEnt)) (kd := .i64) (i := (i : Int)) (e := 88) (es := 6) (by kernel_rfl) (by kernel_rfl) (by kernel_rfl) (by kernel_rfl) (by kernel_rfl) (by omega) (by first | omega | (simp only [List.length_map, List.length_append, List.length_take, List.length_drop, List.length_replicate, List.length_set, List.length_cons, List.length_nil]; omega)) ?_
    refine At.auto 2 (by kernel_rfl) ?_
    refine At.stEl (t := 9) (i := 0) (e := 88) (es := 6) (j := i) (off := 5) (x := .tmp 57) (y := .tmp 54) (xs := ((o.set i (⟨kk, ⟨kk + 1, kk + 2, kk + 3, kk + 4, e1.cmd.digest⟩⟩ : Ent)).map encEnt)) (xs' := ((o.set i (⟨kk, ⟨kk + 1, kk + 2, kk + 3, kk + 4, markT (kk + 5)⟩⟩ : Ent)).map encEnt)) (ys := [.str (markT (kk + 5))]) (v := .str (markT (kk + 5))) (encEnt (⟨kk, ⟨kk + 1, kk + 2, kk + 3, kk + 4, e1.cmd.digest⟩⟩ : Ent)) (encEnt (⟨kk, ⟨kk + 1, kk + 2, kk + 3, kk + 4, markT (kk + 5)⟩⟩ : Ent)) (by kernel_rfl) (by kernel_rfl) (by kernel_rfl) (by kernel_rfl) (by kernel_rfl) (mapGet (setGet he1)) (by kernel_rfl) setSetV ?_
    refine At.done rfl ?_
    refine AW.region (At.start ?_)
    refine At.auto 2 (by kernel_rfl) ?_
    refine At.say 59 (.int .i64 (IntKind.i64.wrap ((kk + 5) + 1))) (.int .i64 (kk + 6)) (by kernel_rfl) (sayJ _ (by omega) (by omega)) ?_
    refine At.auto 1 (by kernel_rfl) ?_
    refine At.done rfl ?_
    refine AW.region (At.start ?_)
    refine At.auto 2 (by kernel_rfl) ?_
    refine At.say 11 (.int .i64 (IntKind.i64.wrap ((i : Int) + 1))) (.int .i64 ((i : Int) + 1)) (by kernel_rfl) (sayI _ (by omega)) ?_
    refine At.auto 1 (by kernel_rfl) ?_
    refine At.done rfl ?_
    exact ⟨(i + 1, (kk + 6), (o.set i (⟨kk, ⟨kk + 1, kk + 2, kk + 3, kk + 4, markT (kk + 5)⟩⟩ : Ent))), ⟨by first | omega | (have hge := hR.le nxE_ge he1; have := nxE_ge e1 kk; omega), hR.step he1 rfl rfl⟩, (by simp only; omega), Sub.of [(0, 0)] [true, true, false, false, false, true] _ _ (by kernel_rfl) (by kernel_rfl) (by kernel_rfl)⟩
  · have h1 : ¬ ((i : Int) < (o.length : Int)) := by simpa using hb
    clear hb
    refine AW.exit ?_
    refine AW.seq ?_
    refine AW.region (At.start ?_)
    refine At.auto 2 (by kernel_rfl) ?_
    refine At.done rfl ?_
    refine AW.ret ?_
    refine ⟨_, Sub.refl _ _, ?_⟩
    refine KF.conv (fun w => .int .i64 w) (fun w => [.arr 88 6 ((marks markE nxE a k).map encEnt)]) (show (kk) = (ends nxE a k) from (hR.done (by omega)).2) ?_
    refine KF.conv (fun w => .int .i64 kk) (fun w => [.arr 88 6 (w.map encEnt)]) (show (o) = (marks markE nxE a k) from (hR.done (by omega)).1) ?_
    exact KF.mk (.inr rfl) [(0, 0)] [.int .i64 kk] (by kernel_rfl) (by kernel_rfl) (by kernel_rfl) (by kernel_rfl) (by kernel_rfl)
set_option maxRecDepth 100000 in
set_option maxHeartbeats 4000000 in
theorem laws_markHard_spec  (a : Hard) (k : Int) (hk : 0 ≤ k) (ha : a.log.length ≤ 1048576) (he : ends nxE a.log k ≤ 4611686018427387904) : FnSpec Try.prog 46 [.agg [.int .i64 a.term, .int .i64 a.vote, .ref 0], .int .i64 k] [.arr 88 6 (a.log.map encEnt)] (.int .i64 (ends nxE a.log k)) [.arr 88 6 ((marks markE nxE a.log k).map encEnt)] := by
  refine FnSpec.of 10 Try.func46 rfl Try.ntmps46 (by simp) (AW.weakK ?_)
  refine AW.seq ?_
  refine AW.region (At.start ?_)
  refine At.auto 2 (by kernel_rfl) ?_
  refine At.done rfl ?_
  refine AW.seq ?_
  refine AW.region (At.start ?_)
  refine At.auto 3 (by kernel_rfl) ?_
  refine At.call (laws_markEntryS_spec  a.log k (by first | omega | (dsimp only; omega) | (simp only [List.length_map, List.length_append, List.length_take, List.length_drop, List.length_replicate, List.length_set, List.length_cons, List.length_nil]; omega)) (by first | omega | (dsimp only; omega) | (simp only [List.length_map, List.length_append, List.length_take, List.length_drop, List.length_replicate, List.length_set, List.length_cons, List.length_nil]; omega)) (by first | omega | (dsimp only; omega) | (simp only [List.length_map, List.length_append, List.length_take, List.length_drop, List.length_replicate, List.length_set, List.length_cons, List.length_nil]; omega))) Try.call49 true [(0, 0)] [] [] (by kernel_rfl) (by kernel_rfl) (by kernel_rfl) (by kernel_rfl) (by kernel_rfl) trivial ?_
  refine At.auto 1 (by kernel_rfl) ?_
  refine At.done rfl ?_
  refine AW.seq ?_
  refine AW.region (At.start ?_)
  refine At.auto 2 (by kernel_rfl) ?_
  refine At.done rfl ?_
  refine AW.ret ?_
  refine ⟨_, Sub.refl _ _, ?_⟩
  exact KF.mk (.inr rfl) [(0, 0)] [.int .i64 (ends nxE a.log k)] (by kernel_rfl) (by kernel_rfl) (by kernel_rfl) (by kernel_rfl) (by kernel_rfl)
set_option maxRecDepth 100000 in
set_option maxHeartbeats 4000000 in
theorem laws_markIntS_spec  (a : List Int) (k : Int) (hk : 0 ≤ k) (ha : a.length ≤ 1048576) (he : ends nxI a k ≤ 4611686018427387904) : FnSpec Try.prog 47 [.ref 0, .int .i64 k] [.arr 3 1 (a.map encI)] (.int .i64 (ends nxI a k)) [.arr 3 1 ((marks markI nxI a k).map encI)] := by
  refine FnSpec.of 19 Try.func47 rfl Try.ntmps47 (by simp) (AW.weakK ?_)
  refine AW.seq ?_
  refine AW.region (At.start ?_)
  refine At.auto 1 (by kernel_rfl) ?_
  refine At.done rfl ?_
  refine AW.seq ?_
  refine AW.seq ?_
  refine AW.region (At.start ?_)
  refine At.auto 1 (by kernel_rfl) ?_
  refine At.done rfl ?_
  refine AW.block ?_
  refine AW.loopW (fun (x : Nat × Int × List Int) => match x with | (i, kk, o) => Go.Sy.mk [.ref 0, .int .i64 kk, .un, .un, .un, .int .i64 (i : Int)] [(0, .arr 3 1 (o.map encI))]) (fun (x : Nat × Int × List Int) => match x with | (i, kk, o) => 0 ≤ kk ∧ MInv markI nxI a k i kk o) (fun (x : Nat × Int × List Int) => match x with | (i, kk, o) => a.length - i) (0, k, a) ⟨hk, MInv.start⟩ (Sub.of [(0, 0)] [true, true, false, false, false, true] _ _ (by kernel_rfl) (by kernel_rfl) (by kernel_rfl)) ?_
  rintro ⟨i, kk, o⟩ ⟨hkk, hR⟩
  have hle := hR.ge nxI_ge
  have hlo := hR.2.1
  refine AW.seq ?_
  refine AW.seq ?_
  refine AW.region (At.start ?_)
  refine At.auto 3 (by kernel_rfl) ?_
  refine At.say 8 (.int .i64 (((o.map encI).length : Nat) : Int)) (.int .i64 (o.length : Int)) (by kernel_rfl) (sayLen _ _) ?_
  refine At.auto 1 (by kernel_rfl) ?_
  refine At.done rfl ?_
  refine AW.cond (decide ((i : Int) < (o.length : Int))) (by kernel_rfl) (fun hb => ?_) (fun hb => ?_)
  · have h1 : (i : Int) < (o.length : Int) := by simpa using hb
    clear hb
    refine AW.skip ?_
    refine AW.seq ?_
    refine AW.block ?_
    refine AW.seq ?_
    refine AW.region (At.start ?_)
    refine At.auto 3 (by kernel_rfl) ?_
    refine At.idxRef (t := 25) (d := 15) (x := .tmp 12) (y := .tmp 13) (j := 0) (xs := (o.map encI)) (kd := .i64) (i := (i : Int)) (e := 3) (es := 1) (by kernel_rfl) (by kernel_rfl) (by kernel_rfl) (by kernel_rfl) (by kernel_rfl) (by omega) (by first | omega | (simp only [List.length_map, List.length_append, List.length_take, List.length_drop, List.length_replicate, List.length_set, List.length_cons, List.length_nil]; omega)) ?_
    refine Exists.elim (show ∃ e, o[i]? = some e from ⟨_, List.getElem?_eq_getElem (by first | omega | (simp only [List.length_map, List.length_append, List.length_take, List.length_drop, List.length_replicate, List.length_set, List.length_cons, List.length_nil]; omega))⟩) fun e1 he1 => ?_
    have hlt := hR.le nxI_ge he1
    rw [nxI] at hlt
    refine At.stEl (t := 3) (i := 0) (e := 3) (es := 1) (j := i) (off := 0) (x := .tmp 15) (y := .tmp 14) (xs := (o.map encI)) (xs' := ((o.set i kk).map encI)) (ys := [.int .i64 kk]) (v := .int .i64 kk) (encI e1) (encI kk) (by kernel_rfl) (by kernel_rfl) (by kernel_rfl) (by kernel_rfl) (by kernel_rfl) (mapGet he1) (by kernel_rfl) setV ?_
    refine At.done rfl ?_
    refine AW.region (At.start ?_)
    refine At.auto 2 (by kernel_rfl) ?_
    refine At.say 17 (.int .i64 (IntKind.i64.wrap (kk + 1))) (.int .i64 (kk + 1)) (by kernel_rfl) (sayI _ (by omega)) ?_
    refine At.auto 1 (by kernel_rfl) ?_
    refine At.done rfl ?_
    refine AW.region (At.start ?_)
    refine At.auto 2 (by kernel_rfl) ?_
    refine At.say 11 (.int .i64 (IntKind.i64.wrap ((i : Int) + 1))) (.int .i64 ((i : Int) + 1)) (by kernel_rfl) (sayI _ (by omega)) ?_
    refine At.auto 1 (by kernel_rfl) ?_
    refine At.done rfl ?_
    exact ⟨(i + 1, (kk + 1), (o.set i kk)), ⟨by first | omega | (have hge := hR.le nxI_ge he1; have := nxI_ge e1 kk; omega), hR.step he1 rfl rfl⟩, (by simp only; omega), Sub.of [(0, 0)] [true, true, false, false, false, true] _ _ (by kernel_rfl) (by kernel_rfl) (by kernel_rfl)⟩
  · have h1 : ¬ ((i : Int) < (o.length : Int)) := by simpa using hb
    clear hb
    refine AW.exit ?_
    refine AW.seq ?_
    refine AW.region (At.start ?_)
    refine At.auto 2 (by kernel_rfl) ?_
    refine At.done rfl ?_
    refine AW.ret ?_
    refine ⟨_, Sub.refl _ _, ?_⟩
    refine KF.conv (fun w => .int .i64 w) (fun w => [.arr 3 1 ((marks markI nxI a k).map encI)]) (show (kk) = (ends nxI a k) from (hR.done (by omega)).2) ?_
    refine KF.conv (fun w => .int .i64 kk) (fun w => [.arr 3 1 (w.map encI)]) (show (o) = (marks markI nxI a k) from (hR.done (by omega)).1) ?_
    exact KF.mk (.inr rfl) [(0, 0)] [.int .i64 kk] (by kernel_rfl) (by kernel_rfl) (by kernel_rfl) (by kernel_rfl) (by kernel_rfl)
set_option maxRecDepth 100000 in
set_option maxHeartbeats 4000000 in
theorem laws_markRaft_spec  (a : Raft) (k : Int) (hz : SmallR a) (hk : 0 ≤ k ∧ k ≤ 4611686017427387904) : FnSpec Try.prog 13 [.agg [.int .i64 a.id, .int .i64 a.of_, .int .i64 a.role, .int .i64 a.commit, .int .i64 a.hard.term, .int .i64 a.hard.vote, .ref 0, .ref 1, .ref 2, .ref 3], .int .i64 k] [.arr 88 6 (a.hard.log.map encEnt), .arr 3 1 (a.yes.map encI), .arr 3 1 (a.next.map encI), .arr 3 1 (a.match_.map encI)] (.int .i64 (raftEnd a k)) [.arr 88 6 (((raftMark a k).hard.log).map encEnt), .arr 3 1 (((raftMark a k).yes).map encI), .arr 3 1 (((raftMark a k).next).map encI), .arr 3 1 (((raftMark a k).match_).map encI)] := by
  obtain ⟨z1, z2, z3, z4⟩ := id hz
  have q1 := endsE_eq a.hard.log k
  have q2 := endsI_eq a.yes (ends nxE a.hard.log k)
  have q3 := endsI_eq a.next (ends nxI a.yes (ends nxE a.hard.log k))
  have q4 := endsI_eq a.match_ (ends nxI a.next (ends nxI a.yes (ends nxE a.hard.log k)))
  refine FnSpec.of 22 Try.func13 rfl Try.ntmps13 (by simp) (AW.weakK ?_)
  refine AW.seq ?_
  refine AW.region (At.start ?_)
  refine At.auto 2 (by kernel_rfl) ?_
  refine At.done rfl ?_
  refine AW.seq ?_
  refine AW.region (At.start ?_)
  refine At.auto 3 (by kernel_rfl) ?_
  refine At.call (laws_markHard_spec  a.hard k (by first | omega | (dsimp only; omega) | (simp only [List.length_map, List.length_append, List.length_take, List.length_drop, List.length_replicate, List.length_set, List.length_cons, List.length_nil]; omega)) (by first | omega | (dsimp only; omega) | (simp only [List.length_map, List.length_append, List.length_take, List.length_drop, List.length_replicate, List.length_set, List.length_cons, List.length_nil]; omega)) (by first | omega | (dsimp only; omega) | (simp only [List.length_map, List.length_append, List.length_take, List.length_drop, List.length_replicate, List.length_set, List.length_cons, List.length_nil]; omega))) Try.call46 true [(0, 0)] [] [] (by kernel_rfl) (by kernel_rfl) (by kernel_rfl) (by kernel_rfl) (by kernel_rfl) trivial ?_
  refine At.auto 1 (by kernel_rfl) ?_
  refine At.done rfl ?_
  refine AW.seq ?_
  refine AW.region (At.start ?_)
  refine At.auto 3 (by kernel_rfl) ?_
  refine At.call (laws_markIntS_spec  a.yes (ends nxE a.hard.log k) (by first | omega | (dsimp only; omega) | (simp only [List.length_map, List.length_append, List.length_take, List.length_drop, List.length_replicate, List.length_set, List.length_cons, List.length_nil]; omega)) (by first | omega | (dsimp only; omega) | (simp only [List.length_map, List.length_append, List.length_take, List.length_drop, List.length_replicate, List.length_set, List.length_cons, List.length_nil]; omega)) (by first | omega | (dsimp only; omega) | (simp only [List.length_map, List.length_append, List.length_take, List.length_drop, List.length_replicate, List.length_set, List.length_cons, List.length_nil]; omega))) Try.call47 true [(1, 0)] [] [] (by kernel_rfl) (by kernel_rfl) (by kernel_rfl) (by kernel_rfl) (by kernel_rfl) trivial ?_
  refine At.auto 1 (by kernel_rfl) ?_
  refine At.done rfl ?_
  refine AW.seq ?_
  refine AW.region (At.start ?_)
  refine At.auto 3 (by kernel_rfl) ?_
  refine At.call (laws_markIntS_spec  a.next (ends nxI a.yes (ends nxE a.hard.log k)) (by first | omega | (dsimp only; omega) | (simp only [List.length_map, List.length_append, List.length_take, List.length_drop, List.length_replicate, List.length_set, List.length_cons, List.length_nil]; omega)) (by first | omega | (dsimp only; omega) | (simp only [List.length_map, List.length_append, List.length_take, List.length_drop, List.length_replicate, List.length_set, List.length_cons, List.length_nil]; omega)) (by first | omega | (dsimp only; omega) | (simp only [List.length_map, List.length_append, List.length_take, List.length_drop, List.length_replicate, List.length_set, List.length_cons, List.length_nil]; omega))) Try.call47 true [(2, 0)] [] [] (by kernel_rfl) (by kernel_rfl) (by kernel_rfl) (by kernel_rfl) (by kernel_rfl) trivial ?_
  refine At.auto 1 (by kernel_rfl) ?_
  refine At.done rfl ?_
  refine AW.seq ?_
  refine AW.region (At.start ?_)
  refine At.auto 3 (by kernel_rfl) ?_
  refine At.call (laws_markIntS_spec  a.match_ (ends nxI a.next (ends nxI a.yes (ends nxE a.hard.log k))) (by first | omega | (dsimp only; omega) | (simp only [List.length_map, List.length_append, List.length_take, List.length_drop, List.length_replicate, List.length_set, List.length_cons, List.length_nil]; omega)) (by first | omega | (dsimp only; omega) | (simp only [List.length_map, List.length_append, List.length_take, List.length_drop, List.length_replicate, List.length_set, List.length_cons, List.length_nil]; omega)) (by first | omega | (dsimp only; omega) | (simp only [List.length_map, List.length_append, List.length_take, List.length_drop, List.length_replicate, List.length_set, List.length_cons, List.length_nil]; omega))) Try.call47 true [(3, 0)] [] [] (by kernel_rfl) (by kernel_rfl) (by kernel_rfl) (by kernel_rfl) (by kernel_rfl) trivial ?_
  refine At.auto 1 (by kernel_rfl) ?_
  refine At.done rfl ?_
  refine AW.seq ?_
  refine AW.region (At.start ?_)
  refine At.auto 2 (by kernel_rfl) ?_
  refine At.done rfl ?_
  refine AW.ret ?_
  refine ⟨_, Sub.refl _ _, ?_⟩
  refine KF.conv (fun w => .int .i64 w) (fun w => [.arr 88 6 (((raftMark a k).hard.log).map encEnt), .arr 3 1 (((raftMark a k).yes).map encI), .arr 3 1 (((raftMark a k).next).map encI), .arr 3 1 (((raftMark a k).match_).map encI)]) (show (ends nxI a.match_ (ends nxI a.next (ends nxI a.yes (ends nxE a.hard.log k)))) = (raftEnd a k) from by rfl) ?_
  exact KF.mk (.inr rfl) [(0, 0), (1, 1), (2, 2), (3, 3)] [.int .i64 (ends nxI a.match_ (ends nxI a.next (ends nxI a.yes (ends nxE a.hard.log k))))] (by kernel_rfl) (by kernel_rfl) (by kernel_rfl) (by kernel_rfl) (by kernel_rfl)
set_option maxRecDepth 100000 in
set_option maxHeartbeats 4000000 in
theorem laws_markRecS_spec  (a : List Rec) (k : Int) (hk : 0 ≤ k) (ha : a.length ≤ 1048576) (he : ends nxR a k ≤ 4611686018427387904) : FnSpec Try.prog 21 [.ref 0, .int .i64 k] [.arr 93 10 (a.map encRec)] (.int .i64 (ends nxR a k)) [.arr 93 10 ((marks markR nxR a k).map encRec)] := by
  refine FnSpec.of 95 Try.func21 rfl Try.ntmps21 (by simp) (AW.weakK ?_)
  refine AW.seq ?_
  refine AW.region (At.start ?_)
  refine At.auto 1 (by kernel_rfl) ?_
  refine At.done rfl ?_
  refine AW.seq ?_
  refine AW.seq ?_
  refine AW.region (At.start ?_)
  refine At.auto 1 (by kernel_rfl) ?_
  refine At.done rfl ?_
  refine AW.block ?_
  refine AW.loopW (fun (x : Nat × Int × List Rec) => match x with | (i, kk, o) => Go.Sy.mk [.ref 0, .int .i64 kk, .un, .un, .un, .int .i64 (i : Int)] [(0, .arr 93 10 (o.map encRec))]) (fun (x : Nat × Int × List Rec) => match x with | (i, kk, o) => 0 ≤ kk ∧ MInv markR nxR a k i kk o) (fun (x : Nat × Int × List Rec) => match x with | (i, kk, o) => a.length - i) (0, k, a) ⟨hk, MInv.start⟩ (Sub.of [(0, 0)] [true, true, false, false, false, true] _ _ (by kernel_rfl) (by kernel_rfl) (by kernel_rfl)) ?_
  rintro ⟨i, kk, o⟩ ⟨hkk, hR⟩
  have hle := hR.ge nxR_ge
  have hlo := hR.2.1
  refine AW.seq ?_
  refine AW.seq ?_
  refine AW.region (At.start ?_)
  refine At.auto 3 (by kernel_rfl) ?_
  refine At.say 8 (.int .i64 (((o.map encRec).length : Nat) : Int)) (.int .i64 (o.length : Int)) (by kernel_rfl) (sayLen _ _) ?_
  refine At.auto 1 (by kernel_rfl) ?_
  refine At.done rfl ?_
  refine AW.cond (decide ((i : Int) < (o.length : Int))) (by kernel_rfl) (fun hb => ?_) (fun hb => ?_)
  · have h1 : (i : Int) < (o.length : Int) := by simpa using hb
    clear hb
    refine AW.skip ?_
    refine AW.seq ?_
    refine AW.block ?_
    refine AW.seq ?_
    refine AW.region (At.start ?_)
    refine At.auto 3 (by kernel_rfl) ?_
    refine At.idxRef (t := 45) (d := 15) (x := .tmp 12) (y := .tmp 13) (j := 0) (xs := (o.map encRec)) (kd := .i64) (i := (i : Int)) (e := 93) (es := 10) (by kernel_rfl) (by kernel_rfl) (by kernel_rfl) (by kernel_rfl) (by kernel_rfl) (by omega) (by first | omega | (simp only [List.length_map, List.length_append, List.length_take, List.length_drop, List.length_replicate, List.length_set, List.length_cons, List.length_nil]; omega)) ?_
    refine At.auto 1 (by kernel_rfl) ?_
    refine Exists.elim (show ∃ e, o[i]? = some e from ⟨_, List.getElem?_eq_getElem (by first | omega | (simp only [List.length_map, List.length_append, List.length_take, List.length_drop, List.length_replicate, List.length_set, List.length_cons, List.length_nil]; omega))⟩) fun e1 he1 => ?_
    have hlt := hR.le nxR_ge he1
    rw [nxR] at hlt
    refine At.stEl (t := 3) (i := 0) (e := 93) (es := 10) (j := i) (off := 0) (x := .tmp 16) (y := .tmp 14) (xs := (o.map encRec)) (xs' := ((o.set i (⟨kk, e1.term, e1.vote, e1.at_, e1.entry⟩ : Rec)).map encRec)) (ys := [.int .i64 kk]) (v := .int .i64 kk) (encRec e1) (encRec (⟨kk, e1.term, e1.vote, e1.at_, e1.entry⟩ : Rec)) (by kernel_rfl) (by kernel_rfl) (by kernel_rfl) (by kernel_rfl) (by kernel_rfl) (mapGet he1) (by kernel_rfl) setV ?_
    refine At.done rfl ?_
    refine AW.seq ?_
    refine AW.region (At.start ?_)
    refine At.auto 2 (by kernel_rfl) ?_
    refine At.say 18 (.int .i64 (IntKind.i64.wrap (kk + 1))) (.int .i64 (kk + 1)) (by kernel_rfl) (sayI _ (by omega)) ?_
    refine At.auto 1 (by kernel_rfl) ?_
    refine At.done rfl ?_
    refine AW.seq ?_
    refine AW.region (At.start ?_)
    refine At.auto 3 (by kernel_rfl) ?_
    refine At.idxRef (t := 45) (d := 22) (x := .tmp 19) (y := .tmp 20) (j := 0) (xs := ((o.set i (⟨kk, e1.term, e1.vote, e1.at_, e1.entry⟩ : Rec)).map encRec)) (kd := .i64) (i := (i : Int)) (e := 93) (es := 10) (by kernel_rfl) (by kernel_rfl) (by kernel_rfl) (by kernel_rfl) (by kernel_rfl) (by omega) (by first | omega | (simp only [List.length_map, List.length_append, List.length_take, List.length_drop, List.length_replicate, List.length_set, List.length_cons, List.length_nil]; omega)) ?_
    refine At.auto 1 (by kernel_rfl) ?_
    refine At.stEl (t := 3) (i := 0) (e := 93) (es := 10) (j := i) (off := 1) (x := .tmp 23) (y := .tmp 21) (xs := ((o.set i (⟨kk, e1.term, e1.vote, e1.at_, e1.entry⟩ : Rec)).map encRec)) (xs' := ((o.set i (⟨kk, kk + 1, e1.vote, e1.at_, e1.entry⟩ : Rec)).map encRec)) (ys := [.int .i64 (kk + 1)]) (v := .int .i64 (kk + 1)) (encRec (⟨kk, e1.term, e1.vote, e1.at_, e1.entry⟩ : Rec)) (encRec (⟨kk, kk + 1, e1.vote, e1.at_, e1.entry⟩ : Rec)) (by kernel_rfl) (by kernel_rfl) (by kernel_rfl) (by kernel_rfl) (by kernel_rfl) (mapGet (setGet he1)) (by kernel_rfl) setSetV ?_
    refine At.done rfl ?_
    refine AW.seq ?_
    refine AW.region (At.start ?_)
    refine At.auto 2 (by kernel_rfl) ?_
    refine At.say 25 (.int .i64 (IntKind.i64.wrap ((kk + 1) + 1))) (.int .i64 (kk + 2)) (by kernel_rfl) (sayJ _ (by omega) (by omega)) ?_
    refine At.auto 1 (by kernel_rfl) ?_
    refine At.done rfl ?_
    refine AW.seq ?_
    refine AW.region (At.start ?_)
    refine At.auto 3 (by kernel_rfl) ?_
    refine At.idxRef (t := 45) (d := 29) (x := .tmp 26) (y := .tmp 27) (j := 0) (xs := ((o.set i (⟨kk, kk + 1, e1.vote, e1.at_, e1.entry⟩ : Rec)).map encRec)) (kd := .i64) (i := (i : Int)) (e := 93) (es := 10) (by kernel_rfl) (by kernel_rfl) (by kernel_rfl) (by kernel_rfl) (by kernel_rfl) (by omega) (by first | omega | (simp only [List.length_map, List.length_append, List.length_take, List.length_drop, List.length_replicate, List.length_set, List.length_cons, List.length_nil]; omega)) ?_
    refine At.auto 1 (by kernel_rfl) ?_
    refine At.stEl (t := 3) (i := 0) (e := 93) (es := 10) (j := i) (off := 2) (x := .tmp 30) (y := .tmp 28) (xs := ((o.set i (⟨kk, kk + 1, e1.vote, e1.at_, e1.entry⟩ : Rec)).map encRec)) (xs' := ((o.set i (⟨kk, kk + 1, kk + 2, e1.at_, e1.entry⟩ : Rec)).map encRec)) (ys := [.int .i64 (kk + 2)]) (v := .int .i64 (kk + 2)) (encRec (⟨kk, kk + 1, e1.vote, e1.at_, e1.entry⟩ : Rec)) (encRec (⟨kk, kk + 1, kk + 2, e1.at_, e1.entry⟩ : Rec)) (by kernel_rfl) (by kernel_rfl) (by kernel_rfl) (by kernel_rfl) (by kernel_rfl) (mapGet (setGet he1)) (by kernel_rfl) setSetV ?_
    refine At.done rfl ?_
    refine AW.seq ?_
    refine AW.region (At.start ?_)
    refine At.auto 2 (by kernel_rfl) ?_
    refine At.say 32 (.int .i64 (IntKind.i64.wrap ((kk + 2) + 1))) (.int .i64 (kk + 3)) (by kernel_rfl) (sayJ _ (by omega) (by omega)) ?_
    refine At.auto 1 (by kernel_rfl) ?_
    refine At.done rfl ?_
    refine AW.seq ?_
    refine AW.region (At.start ?_)
    refine At.auto 3 (by kernel_rfl) ?_
    refine At.idxRef (t := 45) (d := 36) (x := .tmp 33) (y := .tmp 34) (j := 0) (xs := ((o.set i (⟨kk, kk + 1, kk + 2, e1.at_, e1.entry⟩ : Rec)).map encRec)) (kd := .i64) (i := (i : Int)) (e := 93) (es := 10) (by kernel_rfl) (by kernel_rfl) (by kernel_rfl) (by kernel_rfl) (by kernel_rfl) (by omega) (by first | omega | (simp only [List.length_map, List.length_append, List.length_take, List.length_drop, List.length_replicate, List.length_set, List.length_cons, List.length_nil]; omega)) ?_
    refine At.auto 1 (by kernel_rfl) ?_
    refine At.stEl (t := 3) (i := 0) (e := 93) (es := 10) (j := i) (off := 3) (x := .tmp 37) (y := .tmp 35) (xs := ((o.set i (⟨kk, kk + 1, kk + 2, e1.at_, e1.entry⟩ : Rec)).map encRec)) (xs' := ((o.set i (⟨kk, kk + 1, kk + 2, kk + 3, e1.entry⟩ : Rec)).map encRec)) (ys := [.int .i64 (kk + 3)]) (v := .int .i64 (kk + 3)) (encRec (⟨kk, kk + 1, kk + 2, e1.at_, e1.entry⟩ : Rec)) (encRec (⟨kk, kk + 1, kk + 2, kk + 3, e1.entry⟩ : Rec)) (by kernel_rfl) (by kernel_rfl) (by kernel_rfl) (by kernel_rfl) (by kernel_rfl) (mapGet (setGet he1)) (by kernel_rfl) setSetV ?_
    refine At.done rfl ?_
    refine AW.seq ?_
    refine AW.region (At.start ?_)
    refine At.auto 2 (by kernel_rfl) ?_
    refine At.say 39 (.int .i64 (IntKind.i64.wrap ((kk + 3) + 1))) (.int .i64 (kk + 4)) (by kernel_rfl) (sayJ _ (by omega) (by omega)) ?_
    refine At.auto 1 (by kernel_rfl) ?_
    refine At.done rfl ?_
    refine AW.seq ?_
    refine AW.region (At.start ?_)
    refine At.auto 3 (by kernel_rfl) ?_
    refine At.idxRef (t := 45) (d := 43) (x := .tmp 40) (y := .tmp 41) (j := 0) (xs := ((o.set i (⟨kk, kk + 1, kk + 2, kk + 3, e1.entry⟩ : Rec)).map encRec)) (kd := .i64) (i := (i : Int)) (e := 93) (es := 10) (by kernel_rfl) (by kernel_rfl) (by kernel_rfl) (by kernel_rfl) (by kernel_rfl) (by omega) (by first | omega | (simp only [List.length_map, List.length_append, List.length_take, List.length_drop, List.length_replicate, List.length_set, List.length_cons, List.length_nil]; omega)) ?_
    refine At.auto 2 (by kernel_rfl) ?_
    refine At.stEl (t := 3) (i := 0) (e := 93) (es := 10) (j := i) (off := 4) (x := .tmp 45) (y := .tmp 42) (xs := ((o.set i (⟨kk, kk + 1, kk + 2, kk + 3, e1.entry⟩ : Rec)).map encRec)) (xs' := ((o.set i (⟨kk, kk + 1, kk + 2, kk + 3, ⟨kk + 4, ⟨e1.entry.cmd.kind, e1.entry.cmd.release, e1.entry.cmd.node, e1.entry.cmd.size, e1.entry.cmd.digest⟩⟩⟩ : Rec)).map encRec)) (ys := [.int .i64 (kk + 4)]) (v := .int .i64 (kk + 4)) (encRec (⟨kk, kk + 1, kk + 2, kk + 3, e1.entry⟩ : Rec)) (encRec (⟨kk, kk + 1, kk + 2, kk + 3, ⟨kk + 4, ⟨e1.entry.cmd.kind, e1.entry.cmd.release, e1.entry.cmd.node, e1.entry.cmd.size, e1.entry.cmd.digest⟩⟩⟩ : Rec)) (by kernel_rfl) (by kernel_rfl) (by kernel_rfl) (by kernel_rfl) (by kernel_rfl) (mapGet (setGet he1)) (by kernel_rfl) setSetV ?_
    refine At.done rfl ?_
    refine AW.seq ?_
    refine AW.region (At.start ?_)
    refine At.auto 2 (by kernel_rfl) ?_
    refine At.say 47 (.int .i64 (IntKind.i64.wrap ((kk + 4) + 1))) (.int .i64 (kk + 5)) (by kernel_rfl) (sayJ _ (by omega) (by omega)) ?_
    refine At.auto 1 (by kernel_rfl) ?_
    refine At.done rfl ?_
    refine AW.seq ?_
    refine AW.region (At.start ?_)
    refine At.auto 3 (by kernel_rfl) ?_
    refine At.idxRef (t := 45) (d := 51) (x := .tmp 48) (y := .tmp 49) (j := 0) (xs := ((o.set i (⟨kk, kk + 1, kk + 2, kk + 3, ⟨kk + 4, ⟨e1.entry.cmd.kind, e1.entry.cmd.release, e1.entry.cmd.node, e1.entry.cmd.size, e1.entry.cmd.digest⟩⟩⟩ : Rec)).map encRec)) (kd := .i64) (i := (i : Int)) (e := 93) (es := 10) (by kernel_rfl) (by kernel_rfl) (by kernel_rfl) (by kernel_rfl) (by kernel_rfl) (by omega) (by first | omega | (simp only [List.length_map, List.length_append, List.length_take, List.length_drop, List.length_replicate, List.length_set, List.length_cons, List.length_nil]; omega)) ?_
    refine At.auto 3 (by kernel_rfl) ?_
    refine At.stEl (t := 3) (i := 0) (e := 93) (es := 10) (j := i) (off := 5) (x := .tmp 54) (y := .tmp 50) (xs := ((o.set i (⟨kk, kk + 1, kk + 2, kk + 3, ⟨kk + 4, ⟨e1.entry.cmd.kind, e1.entry.cmd.release, e1.entry.cmd.node, e1.entry.cmd.size, e1.entry.cmd.digest⟩⟩⟩ : Rec)).map encRec)) (xs' := ((o.set i (⟨kk, kk + 1, kk + 2, kk + 3, ⟨kk + 4, ⟨kk + 5, e1.entry.cmd.release, e1.entry.cmd.node, e1.entry.cmd.size, e1.entry.cmd.digest⟩⟩⟩ : Rec)).map encRec)) (ys := [.int .i64 (kk + 5)]) (v := .int .i64 (kk + 5)) (encRec (⟨kk, kk + 1, kk + 2, kk + 3, ⟨kk + 4, ⟨e1.entry.cmd.kind, e1.entry.cmd.release, e1.entry.cmd.node, e1.entry.cmd.size, e1.entry.cmd.digest⟩⟩⟩ : Rec)) (encRec (⟨kk, kk + 1, kk + 2, kk + 3, ⟨kk + 4, ⟨kk + 5, e1.entry.cmd.release, e1.entry.cmd.node, e1.entry.cmd.size, e1.entry.cmd.digest⟩⟩⟩ : Rec)) (by kernel_rfl) (by kernel_rfl) (by kernel_rfl) (by kernel_rfl) (by kernel_rfl) (mapGet (setGet he1)) (by kernel_rfl) setSetV ?_
    refine At.done rfl ?_
    refine AW.seq ?_
    refine AW.region (At.start ?_)
    refine At.auto 2 (by kernel_rfl) ?_
    refine At.say 56 (.int .i64 (IntKind.i64.wrap ((kk + 5) + 1))) (.int .i64 (kk + 6)) (by kernel_rfl) (sayJ _ (by omega) (by omega)) ?_
    refine At.auto 1 (by kernel_rfl) ?_
    refine At.done rfl ?_
    refine AW.seq ?_
    refine AW.region (At.start ?_)
    refine At.auto 3 (by kernel_rfl) ?_
    refine At.idxRef (t := 45) (d := 60) (x := .tmp 57) (y := .tmp 58) (j := 0) (xs := ((o.set i (⟨kk, kk + 1, kk + 2, kk + 3, ⟨kk + 4, ⟨kk + 5, e1.entry.cmd.release, e1.entry.cmd.node, e1.entry.cmd.size, e1.entry.cmd.digest⟩⟩⟩ : Rec)).map encRec)) (kd := .i64) (i := (i : Int)) (e := 93) (es := 10) (by kernel_rfl) (by kernel_rfl) (by kernel_rfl) (by kernel_rfl) (by kernel_rfl) (by omega) (by first | omega | (simp only [List.length_map, List.length_append, List.length_take, List.length_drop, List.length_replicate, List.length_set, List.length_cons, List.length_nil]; omega)) ?_
    refine At.auto 3 (by kernel_rfl) ?_
    refine At.stEl (t := 3) (i := 0) (e := 93) (es := 10) (j := i) (off := 6) (x := .tmp 63) (y := .tmp 59) (xs := ((o.set i (⟨kk, kk + 1, kk + 2, kk + 3, ⟨kk + 4, ⟨kk + 5, e1.entry.cmd.release, e1.entry.cmd.node, e1.entry.cmd.size, e1.entry.cmd.digest⟩⟩⟩ : Rec)).map encRec)) (xs' := ((o.set i (⟨kk, kk + 1, kk + 2, kk + 3, ⟨kk + 4, ⟨kk + 5, kk + 6, e1.entry.cmd.node, e1.entry.cmd.size, e1.entry.cmd.digest⟩⟩⟩ : Rec)).map encRec)) (ys := [.int .i64 (kk + 6)]) (v := .int .i64 (kk + 6)) (encRec (⟨kk, kk + 1, kk + 2, kk + 3, ⟨kk + 4, ⟨kk + 5, e1.entry.cmd.release, e1.entry.cmd.node, e1.entry.cmd.size, e1.entry.cmd.digest⟩⟩⟩ : Rec)) (encRec (⟨kk, kk + 1, kk + 2, kk + 3, ⟨kk + 4, ⟨kk + 5, kk + 6, e1.entry.cmd.node, e1.entry.cmd.size, e1.entry.cmd.digest⟩⟩⟩ : Rec)) (by kernel_rfl) (by kernel_rfl) (by kernel_rfl) (by kernel_rfl) (by kernel_rfl) (mapGet (setGet he1)) (by kernel_rfl) setSetV ?_
    refine At.done rfl ?_
    refine AW.seq ?_
    refine AW.region (At.start ?_)
    refine At.auto 2 (by kernel_rfl) ?_
    refine At.say 65 (.int .i64 (IntKind.i64.wrap ((kk + 6) + 1))) (.int .i64 (kk + 7)) (by kernel_rfl) (sayJ _ (by omega) (by omega)) ?_
    refine At.auto 1 (by kernel_rfl) ?_
    refine At.done rfl ?_
    refine AW.seq ?_
    refine AW.region (At.start ?_)
    refine At.auto 3 (by kernel_rfl) ?_
    refine At.idxRef (t := 45) (d := 69) (x := .tmp 66) (y := .tmp 67) (j := 0) (xs := ((o.set i (⟨kk, kk + 1, kk + 2, kk + 3, ⟨kk + 4, ⟨kk + 5, kk + 6, e1.entry.cmd.node, e1.entry.cmd.size, e1.entry.cmd.digest⟩⟩⟩ : Rec)).map encRec)) (kd := .i64) (i := (i : Int)) (e := 93) (es := 10) (by kernel_rfl) (by kernel_rfl) (by kernel_rfl) (by kernel_rfl) (by kernel_rfl) (by omega) (by first | omega | (simp only [List.length_map, List.length_append, List.length_take, List.length_drop, List.length_replicate, List.length_set, List.length_cons, List.length_nil]; omega)) ?_
    refine At.auto 3 (by kernel_rfl) ?_
    refine At.stEl (t := 3) (i := 0) (e := 93) (es := 10) (j := i) (off := 7) (x := .tmp 72) (y := .tmp 68) (xs := ((o.set i (⟨kk, kk + 1, kk + 2, kk + 3, ⟨kk + 4, ⟨kk + 5, kk + 6, e1.entry.cmd.node, e1.entry.cmd.size, e1.entry.cmd.digest⟩⟩⟩ : Rec)).map encRec)) (xs' := ((o.set i (⟨kk, kk + 1, kk + 2, kk + 3, ⟨kk + 4, ⟨kk + 5, kk + 6, kk + 7, e1.entry.cmd.size, e1.entry.cmd.digest⟩⟩⟩ : Rec)).map encRec)) (ys := [.int .i64 (kk + 7)]) (v := .int .i64 (kk + 7)) (encRec (⟨kk, kk + 1, kk + 2, kk + 3, ⟨kk + 4, ⟨kk + 5, kk + 6, e1.entry.cmd.node, e1.entry.cmd.size, e1.entry.cmd.digest⟩⟩⟩ : Rec)) (encRec (⟨kk, kk + 1, kk + 2, kk + 3, ⟨kk + 4, ⟨kk + 5, kk + 6, kk + 7, e1.entry.cmd.size, e1.entry.cmd.digest⟩⟩⟩ : Rec)) (by kernel_rfl) (by kernel_rfl) (by kernel_rfl) (by kernel_rfl) (by kernel_rfl) (mapGet (setGet he1)) (by kernel_rfl) setSetV ?_
    refine At.done rfl ?_
    refine AW.seq ?_
    refine AW.region (At.start ?_)
    refine At.auto 2 (by kernel_rfl) ?_
    refine At.say 74 (.int .i64 (IntKind.i64.wrap ((kk + 7) + 1))) (.int .i64 (kk + 8)) (by kernel_rfl) (sayJ _ (by omega) (by omega)) ?_
    refine At.auto 1 (by kernel_rfl) ?_
    refine At.done rfl ?_
    refine AW.seq ?_
    refine AW.region (At.start ?_)
    refine At.auto 3 (by kernel_rfl) ?_
    refine At.idxRef (t := 45) (d := 78) (x := .tmp 75) (y := .tmp 76) (j := 0) (xs := ((o.set i (⟨kk, kk + 1, kk + 2, kk + 3, ⟨kk + 4, ⟨kk + 5, kk + 6, kk + 7, e1.entry.cmd.size, e1.entry.cmd.digest⟩⟩⟩ : Rec)).map encRec)) (kd := .i64) (i := (i : Int)) (e := 93) (es := 10) (by kernel_rfl) (by kernel_rfl) (by kernel_rfl) (by kernel_rfl) (by kernel_rfl) (by omega) (by first | omega | (simp only [List.length_map, List.length_append, List.length_take, List.length_drop, List.length_replicate, List.length_set, List.length_cons, List.length_nil]; omega)) ?_
    refine At.auto 3 (by kernel_rfl) ?_
    refine At.stEl (t := 3) (i := 0) (e := 93) (es := 10) (j := i) (off := 8) (x := .tmp 81) (y := .tmp 77) (xs := ((o.set i (⟨kk, kk + 1, kk + 2, kk + 3, ⟨kk + 4, ⟨kk + 5, kk + 6, kk + 7, e1.entry.cmd.size, e1.entry.cmd.digest⟩⟩⟩ : Rec)).map encRec)) (xs' := ((o.set i (⟨kk, kk + 1, kk + 2, kk + 3, ⟨kk + 4, ⟨kk + 5, kk + 6, kk + 7, kk + 8, e1.entry.cmd.digest⟩⟩⟩ : Rec)).map encRec)) (ys := [.int .i64 (kk + 8)]) (v := .int .i64 (kk + 8)) (encRec (⟨kk, kk + 1, kk + 2, kk + 3, ⟨kk + 4, ⟨kk + 5, kk + 6, kk + 7, e1.entry.cmd.size, e1.entry.cmd.digest⟩⟩⟩ : Rec)) (encRec (⟨kk, kk + 1, kk + 2, kk + 3, ⟨kk + 4, ⟨kk + 5, kk + 6, kk + 7, kk + 8, e1.entry.cmd.digest⟩⟩⟩ : Rec)) (by kernel_rfl) (by kernel_rfl) (by kernel_rfl) (by kernel_rfl) (by kernel_rfl) (mapGet (setGet he1)) (by kernel_rfl) setSetV ?_
    refine At.done rfl ?_
    refine AW.seq ?_
    refine AW.region (At.start ?_)
    refine At.auto 2 (by kernel_rfl) ?_
    refine At.say 83 (.int .i64 (IntKind.i64.wrap ((kk + 8) + 1))) (.int .i64 (kk + 9)) (by kernel_rfl) (sayJ _ (by omega) (by omega)) ?_
    refine At.auto 1 (by kernel_rfl) ?_
    refine At.done rfl ?_
    refine AW.seq ?_
    refine AW.region (At.start ?_)
    refine At.auto 3 (by kernel_rfl) ?_
    refine At.call (laws_markText_spec  (kk + 9) (by first | omega | (dsimp only; omega) | (simp only [List.length_map, List.length_append, List.length_take, List.length_drop, List.length_replicate, List.length_set, List.length_cons, List.length_nil]; omega))) Try.call48 true [] [] [] (by kernel_rfl) (by kernel_rfl) (by kernel_rfl) (by kernel_rfl) (by kernel_rfl) trivial ?_
    refine At.idxRef (t := 45) (d := 88) (x := .tmp 84) (y := .tmp 85) (j := 0) (xs := ((o.set i (⟨kk, kk + 1, kk + 2, kk + 3, ⟨kk + 4, ⟨kk + 5, kk + 6, kk + 7, kk + 8, e1.entry.cmd.digest⟩⟩⟩ : Rec)).map encRec)) (kd := .i64) (i := (i : Int)) (e := 93) (es := 10) (by kernel_rfl) (by kernel_rfl) (by kernel_rfl) (by kernel_rfl) (by kernel_rfl) (by omega) (by first | omega | (simp only [List.length_map, List.length_append, List.length_take, List.length_drop, List.length_replicate, List.length_set, List.length_cons, List.length_nil]; omega)) ?_
    refine At.auto 3 (by kernel_rfl) ?_
    refine At.stEl (t := 9) (i := 0) (e := 93) (es := 10) (j := i) (off := 9) (x := .tmp 91) (y := .tmp 87) (xs := ((o.set i (⟨kk, kk + 1, kk + 2, kk + 3, ⟨kk + 4, ⟨kk + 5, kk + 6, kk + 7, kk + 8, e1.entry.cmd.digest⟩⟩⟩ : Rec)).map encRec)) (xs' := ((o.set i (⟨kk, kk + 1, kk + 2, kk + 3, ⟨kk + 4, ⟨kk + 5, kk + 6, kk + 7, kk + 8, markT (kk + 9)⟩⟩⟩ : Rec)).map encRec)) (ys := [.str (markT (kk + 9))]) (v := .str (markT (kk + 9))) (encRec (⟨kk, kk + 1, kk + 2, kk + 3, ⟨kk + 4, ⟨kk + 5, kk + 6, kk + 7, kk + 8, e1.entry.cmd.digest⟩⟩⟩ : Rec)) (encRec (⟨kk, kk + 1, kk + 2, kk + 3, ⟨kk + 4, ⟨kk + 5, kk + 6, kk + 7, kk + 8, markT (kk + 9)⟩⟩⟩ : Rec)) (by kernel_rfl) (by kernel_rfl) (by kernel_rfl) (by kernel_rfl) (by kernel_rfl) (mapGet (setGet he1)) (by kernel_rfl) setSetV ?_
    refine At.done rfl ?_
    refine AW.region (At.start ?_)
    refine At.auto 2 (by kernel_rfl) ?_
    refine At.say 93 (.int .i64 (IntKind.i64.wrap ((kk + 9) + 1))) (.int .i64 (kk + 10)) (by kernel_rfl) (sayJ _ (by omega) (by omega)) ?_
    refine At.auto 1 (by kernel_rfl) ?_
    refine At.done rfl ?_
    refine AW.region (At.start ?_)
    refine At.auto 2 (by kernel_rfl) ?_
    refine At.say 11 (.int .i64 (IntKind.i64.wrap ((i : Int) + 1))) (.int .i64 ((i : Int) + 1)) (by kernel_rfl) (sayI _ (by omega)) ?_
    refine At.auto 1 (by kernel_rfl) ?_
    refine At.done rfl ?_
    exact ⟨(i + 1, (kk + 10), (o.set i (⟨kk, kk + 1, kk + 2, kk + 3, ⟨kk + 4, ⟨kk + 5, kk + 6, kk + 7, kk + 8, markT (kk + 9)⟩⟩⟩ : Rec))), ⟨by first | omega | (have hge := hR.le nxR_ge he1; have := nxR_ge e1 kk; omega), hR.step he1 rfl rfl⟩, (by simp only; omega), Sub.of [(0, 0)] [true, true, false, false, false, true] _ _ (by kernel_rfl) (by kernel_rfl) (by kernel_rfl)⟩
  · have h1 : ¬ ((i : Int) < (o.length : Int)) := by simpa using hb
    clear hb
    refine AW.exit ?_
    refine AW.seq ?_
    refine AW.region (At.start ?_)
    refine At.auto 2 (by kernel_rfl) ?_
    refine At.done rfl ?_
    refine AW.ret ?_
    refine ⟨_, Sub.refl _ _, ?_⟩
    refine KF.conv (fun w => .int .i64 w) (fun w => [.arr 93 10 ((marks markR nxR a k).map encRec)]) (show (kk) = (ends nxR a k) from (hR.done (by omega)).2) ?_
    refine KF.conv (fun w => .int .i64 kk) (fun w => [.arr 93 10 (w.map encRec)]) (show (o) = (marks markR nxR a k) from (hR.done (by omega)).1) ?_
    exact KF.mk (.inr rfl) [(0, 0)] [.int .i64 kk] (by kernel_rfl) (by kernel_rfl) (by kernel_rfl) (by kernel_rfl) (by kernel_rfl)
end Go.Proofs.Ytlmadhahghiedaa
