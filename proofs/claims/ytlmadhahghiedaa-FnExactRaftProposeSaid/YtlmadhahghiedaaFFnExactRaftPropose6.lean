/- The contracts of the functions that FnExactRaftPropose reaches (each: what it answers, said over values), printed by a program of this session (wip/sy/g/gen.py). -/
import Derived.Test.YtlmadhahghiedaaFFnExactRaftPropose5
set_option linter.unusedVariables false
set_option linter.unusedSimpArgs false
namespace Go.Proofs.Ytlmadhahghiedaa
open Go Go.Sy Go.Proofs
set_option maxRecDepth 100000 in
set_option maxHeartbeats 4000000 in
theorem laws_heldOutS_spec  (a : List Out) (k : Int) (ha : FewOuts a) (hk : 0 ≤ k ∧ k ≤ 4611686017427387904) : FnSpec Try.prog 15 [.sl false 17 (a.map encOutV), .int .i64 k] [] (.int .i64 (heldO a k)) [] := by
  obtain ⟨ha1, ha2⟩ := id ha
  refine FnSpec.of 191 Try.func15 rfl Try.ntmps15 (by simp) (AW.weakK ?_)
  refine AW.seq ?_
  refine AW.region (At.start ?_)
  refine At.auto 1 (by kernel_rfl) ?_
  refine At.done rfl ?_
  refine AW.seq ?_
  refine AW.seq ?_
  refine AW.region (At.start ?_)
  refine At.auto 1 (by kernel_rfl) ?_
  refine At.done rfl ?_
  refine AW.block ?_
  refine AW.loopW (fun (x : Nat × Int) => match x with | (i, kk) => Go.Sy.mk [.sl false 17 (a.map encOutV), .int .i64 kk, .un, .un, .un, .int .i64 (i : Int)] []) (fun (x : Nat × Int) => match x with | (i, kk) => i ≤ a.length ∧ 0 ≤ kk ∧ kk ≤ k + 1000 * i ∧ heldO a k = heldO (a.drop i) kk) (fun (x : Nat × Int) => match x with | (i, kk) => a.length - i) (0, k) ⟨by omega, by omega, by omega, by rw [List.drop_zero]⟩ (Sub.of [] [true, true, false, false, false, true] _ _ (by kernel_rfl) (by kernel_rfl) (by kernel_rfl)) ?_
  rintro ⟨i, kk⟩ ⟨hi, hkk, hkb, hR⟩
  refine AW.seq ?_
  refine AW.seq ?_
  refine AW.region (At.start ?_)
  refine At.auto 3 (by kernel_rfl) ?_
  refine At.say 8 (.int .i64 (((a.map encOutV).length : Nat) : Int)) (.int .i64 (a.length : Int)) (by kernel_rfl) (sayLen _ _) ?_
  refine At.auto 1 (by kernel_rfl) ?_
  refine At.done rfl ?_
  refine AW.cond (decide ((i : Int) < (a.length : Int))) (by kernel_rfl) (fun hb => ?_) (fun hb => ?_)
  · have h1 : (i : Int) < (a.length : Int) := by simpa using hb
    clear hb
    refine AW.skip ?_
    refine AW.seq ?_
    refine AW.block ?_
    refine AW.seq ?_
    refine AW.seq ?_
    refine AW.region (At.start ?_)
    refine At.auto 2 (by kernel_rfl) ?_
    refine At.idxSl (t := 29) (d := 14) (x := .tmp 12) (y := .tmp 13) (p := false) (es := 17) (xs := (a.map encOutV)) (kd := .i64) (i := (i : Int)) (e := 76) (by kernel_rfl) (by kernel_rfl) (by kernel_rfl) (by kernel_rfl) (by omega) (by first | omega | (simp only [List.length_map, List.length_append, List.length_take, List.length_drop, List.length_replicate, List.length_set, List.length_cons, List.length_nil]; omega)) ?_
    refine At.auto 1 (by kernel_rfl) ?_
    refine Exists.elim (show ∃ e, a[i]? = some e from ⟨_, List.getElem?_eq_getElem (by first | omega | (simp only [List.length_map, List.length_append, List.length_take, List.length_drop, List.length_replicate, List.length_set, List.length_cons, List.length_nil]; omega))⟩) fun e1 he1 => ?_
    have hen := ha2 _ (List.mem_of_getElem? he1)
    refine At.ldVp (t := 3) (d := 16) (x := .tmp 15) (p := false) (es := 17) (xs := (a.map encOutV)) (j := i) (off := 0) (b := false) (m := 1) (encOutV e1) (.int .i64 e1.to) (by kernel_rfl) (by kernel_rfl) (by kernel_rfl) (by kernel_rfl) (mapGet he1) (by kernel_rfl) ?_
    refine At.auto 2 (by kernel_rfl) ?_
    refine At.done rfl ?_
    refine AW.cond (e1.to != kk) (by kernel_rfl) (fun hb => ?_) (fun hb => ?_)
    · have h2 : ¬ (e1.to = kk) := by simpa using hb
      clear hb
      refine AW.seq ?_
      refine AW.region (At.start ?_)
      refine At.auto 1 (by kernel_rfl) ?_
      refine At.done rfl ?_
      refine AW.ret ?_
      refine ⟨_, Sub.refl _ _, ?_⟩
      refine KF.conv (fun w => .int .i64 w) (fun w => []) (show (-1) = (heldO a k) from by first | (rw [hR, dropCons he1, heldO, if_pos (by simp [okM, h1, h2]), if_pos (by assumption)]; done) | (rw [hR, dropCons he1, heldO, if_neg (by simp [okM, h1, h2])]; done) | (rw [hR, List.drop_of_length_le (by omega)]; rfl)) ?_
      exact KF.mk (.inr rfl) [] [.int .i64 (-1)] (by kernel_rfl) (by kernel_rfl) (by kernel_rfl) (by kernel_rfl) (by kernel_rfl)
    · have h2 : e1.to = kk := by simpa using hb
      clear hb
      refine AW.skip ?_
      refine AW.seq ?_
      refine AW.region (At.start ?_)
      refine At.auto 2 (by kernel_rfl) ?_
      refine At.say 20 (.int .i64 (IntKind.i64.wrap (kk + 1))) (.int .i64 (kk + 1)) (by kernel_rfl) (sayI _ (by omega)) ?_
      refine At.auto 1 (by kernel_rfl) ?_
      refine At.done rfl ?_
      refine AW.seq ?_
      refine AW.seq ?_
      refine AW.region (At.start ?_)
      refine At.auto 2 (by kernel_rfl) ?_
      refine At.idxSl (t := 29) (d := 23) (x := .tmp 21) (y := .tmp 22) (p := false) (es := 17) (xs := (a.map encOutV)) (kd := .i64) (i := (i : Int)) (e := 76) (by kernel_rfl) (by kernel_rfl) (by kernel_rfl) (by kernel_rfl) (by omega) (by first | omega | (simp only [List.length_map, List.length_append, List.length_take, List.length_drop, List.length_replicate, List.length_set, List.length_cons, List.length_nil]; omega)) ?_
      refine At.auto 2 (by kernel_rfl) ?_
      refine At.ldVp (t := 3) (d := 26) (x := .tmp 25) (p := false) (es := 17) (xs := (a.map encOutV)) (j := i) (off := 1) (b := false) (m := 1) (encOutV e1) (.int .i64 e1.msg.kind) (by kernel_rfl) (by kernel_rfl) (by kernel_rfl) (by kernel_rfl) (mapGet he1) (by kernel_rfl) ?_
      refine At.auto 2 (by kernel_rfl) ?_
      refine At.done rfl ?_
      refine AW.cond (e1.msg.kind != (kk + 1)) (by kernel_rfl) (fun hb => ?_) (fun hb => ?_)
      · have h3 : ¬ (e1.msg.kind = kk + 1) := by simpa using hb
        clear hb
        refine AW.seq ?_
        refine AW.region (At.start ?_)
        refine At.auto 1 (by kernel_rfl) ?_
        refine At.done rfl ?_
        refine AW.ret ?_
        refine ⟨_, Sub.refl _ _, ?_⟩
        refine KF.conv (fun w => .int .i64 w) (fun w => []) (show (-1) = (heldO a k) from by first | (rw [hR, dropCons he1, heldO, if_pos (by simp [okM, h1, h2, h3]), if_pos (by assumption)]; done) | (rw [hR, dropCons he1, heldO, if_neg (by simp [okM, h1, h2, h3])]; done) | (rw [hR, List.drop_of_length_le (by omega)]; rfl)) ?_
        exact KF.mk (.inr rfl) [] [.int .i64 (-1)] (by kernel_rfl) (by kernel_rfl) (by kernel_rfl) (by kernel_rfl) (by kernel_rfl)
      · have h3 : e1.msg.kind = kk + 1 := by simpa using hb
        clear hb
        refine AW.skip ?_
        refine AW.seq ?_
        refine AW.region (At.start ?_)
        refine At.auto 2 (by kernel_rfl) ?_
        refine At.say 30 (.int .i64 (IntKind.i64.wrap ((kk + 1) + 1))) (.int .i64 (kk + 2)) (by kernel_rfl) (sayJ _ (by omega) (by omega)) ?_
        refine At.auto 1 (by kernel_rfl) ?_
        refine At.done rfl ?_
        refine AW.seq ?_
        refine AW.seq ?_
        refine AW.region (At.start ?_)
        refine At.auto 2 (by kernel_rfl) ?_
        refine At.idxSl (t := 29) (d := 33) (x := .tmp 31) (y := .tmp 32) (p := false) (es := 17) (xs := (a.map encOutV)) (kd := .i64) (i := (i : Int)) (e := 76) (by kernel_rfl) (by kernel_rfl) (by kernel_rfl) (by kernel_rfl) (by omega) (by first | omega | (simp only [List.length_map, List.length_append, List.length_take, List.length_drop, List.length_replicate, List.length_set, List.length_cons, List.length_nil]; omega)) ?_
        refine At.auto 2 (by kernel_rfl) ?_
        refine At.ldVp (t := 3) (d := 36) (x := .tmp 35) (p := false) (es := 17) (xs := (a.map encOutV)) (j := i) (off := 2) (b := false) (m := 1) (encOutV e1) (.int .i64 e1.msg.from_) (by kernel_rfl) (by kernel_rfl) (by kernel_rfl) (by kernel_rfl) (mapGet he1) (by kernel_rfl) ?_
        refine At.auto 2 (by kernel_rfl) ?_
        refine At.done rfl ?_
        refine AW.cond (e1.msg.from_ != (kk + 2)) (by kernel_rfl) (fun hb => ?_) (fun hb => ?_)
        · have h4 : ¬ (e1.msg.from_ = kk + 2) := by simpa using hb
          clear hb
          refine AW.seq ?_
          refine AW.region (At.start ?_)
          refine At.auto 1 (by kernel_rfl) ?_
          refine At.done rfl ?_
          refine AW.ret ?_
          refine ⟨_, Sub.refl _ _, ?_⟩
          refine KF.conv (fun w => .int .i64 w) (fun w => []) (show (-1) = (heldO a k) from by first | (rw [hR, dropCons he1, heldO, if_pos (by simp [okM, h1, h2, h3, h4]), if_pos (by assumption)]; done) | (rw [hR, dropCons he1, heldO, if_neg (by simp [okM, h1, h2, h3, h4])]; done) | (rw [hR, List.drop_of_length_le (by omega)]; rfl)) ?_
          exact KF.mk (.inr rfl) [] [.int .i64 (-1)] (by kernel_rfl) (by kernel_rfl) (by kernel_rfl) (by kernel_rfl) (by kernel_rfl)
        · have h4 : e1.msg.from_ = kk + 2 := by simpa using hb
          clear hb
          refine AW.skip ?_
          refine AW.seq ?_
          refine AW.region (At.start ?_)
          refine At.auto 2 (by kernel_rfl) ?_
          refine At.say 40 (.int .i64 (IntKind.i64.wrap ((kk + 2) + 1))) (.int .i64 (kk + 3)) (by kernel_rfl) (sayJ _ (by omega) (by omega)) ?_
          refine At.auto 1 (by kernel_rfl) ?_
          refine At.done rfl ?_
          refine AW.seq ?_
          refine AW.seq ?_
          refine AW.region (At.start ?_)
          refine At.auto 2 (by kernel_rfl) ?_
          refine At.idxSl (t := 29) (d := 43) (x := .tmp 41) (y := .tmp 42) (p := false) (es := 17) (xs := (a.map encOutV)) (kd := .i64) (i := (i : Int)) (e := 76) (by kernel_rfl) (by kernel_rfl) (by kernel_rfl) (by kernel_rfl) (by omega) (by first | omega | (simp only [List.length_map, List.length_append, List.length_take, List.length_drop, List.length_replicate, List.length_set, List.length_cons, List.length_nil]; omega)) ?_
          refine At.auto 2 (by kernel_rfl) ?_
          refine At.ldVp (t := 3) (d := 46) (x := .tmp 45) (p := false) (es := 17) (xs := (a.map encOutV)) (j := i) (off := 3) (b := false) (m := 1) (encOutV e1) (.int .i64 e1.msg.term) (by kernel_rfl) (by kernel_rfl) (by kernel_rfl) (by kernel_rfl) (mapGet he1) (by kernel_rfl) ?_
          refine At.auto 2 (by kernel_rfl) ?_
          refine At.done rfl ?_
          refine AW.cond (e1.msg.term != (kk + 3)) (by kernel_rfl) (fun hb => ?_) (fun hb => ?_)
          · have h5 : ¬ (e1.msg.term = kk + 3) := by simpa using hb
            clear hb
            refine AW.seq ?_
            refine AW.region (At.start ?_)
            refine At.auto 1 (by kernel_rfl) ?_
            refine At.done rfl ?_
            refine AW.ret ?_
            refine ⟨_, Sub.refl _ _, ?_⟩
            refine KF.conv (fun w => .int .i64 w) (fun w => []) (show (-1) = (heldO a k) from by first | (rw [hR, dropCons he1, heldO, if_pos (by simp [okM, h1, h2, h3, h4, h5]), if_pos (by assumption)]; done) | (rw [hR, dropCons he1, heldO, if_neg (by simp [okM, h1, h2, h3, h4, h5])]; done) | (rw [hR, List.drop_of_length_le (by omega)]; rfl)) ?_
            exact KF.mk (.inr rfl) [] [.int .i64 (-1)] (by kernel_rfl) (by kernel_rfl) (by kernel_rfl) (by kernel_rfl) (by kernel_rfl)
          · have h5 : e1.msg.term = kk + 3 := by simpa using hb
            clear hb
            refine AW.skip ?_
            refine AW.seq ?_
            refine AW.region (At.start ?_)
            refine At.auto 2 (by kernel_rfl) ?_
            refine At.say 50 (.int .i64 (IntKind.i64.wrap ((kk + 3) + 1))) (.int .i64 (kk + 4)) (by kernel_rfl) (sayJ _ (by omega) (by omega)) ?_
            refine At.auto 1 (by kernel_rfl) ?_
            refine At.done rfl ?_
            refine AW.seq ?_
            refine AW.seq ?_
            refine AW.region (At.start ?_)
            refine At.auto 2 (by kernel_rfl) ?_
            refine At.idxSl (t := 29) (d := 53) (x := .tmp 51) (y := .tmp 52) (p := false) (es := 17) (xs := (a.map encOutV)) (kd := .i64) (i := (i : Int)) (e := 76) (by kernel_rfl) (by kernel_rfl) (by kernel_rfl) (by kernel_rfl) (by omega) (by first | omega | (simp only [List.length_map, List.length_append, List.length_take, List.length_drop, List.length_replicate, List.length_set, List.length_cons, List.length_nil]; omega)) ?_
            refine At.auto 2 (by kernel_rfl) ?_
            refine At.ldVp (t := 3) (d := 56) (x := .tmp 55) (p := false) (es := 17) (xs := (a.map encOutV)) (j := i) (off := 4) (b := false) (m := 1) (encOutV e1) (.int .i64 e1.msg.at_) (by kernel_rfl) (by kernel_rfl) (by kernel_rfl) (by kernel_rfl) (mapGet he1) (by kernel_rfl) ?_
            refine At.auto 2 (by kernel_rfl) ?_
            refine At.done rfl ?_
            refine AW.cond (e1.msg.at_ != (kk + 4)) (by kernel_rfl) (fun hb => ?_) (fun hb => ?_)
            · have h6 : ¬ (e1.msg.at_ = kk + 4) := by simpa using hb
              clear hb
              refine AW.seq ?_
              refine AW.region (At.start ?_)
              refine At.auto 1 (by kernel_rfl) ?_
              refine At.done rfl ?_
              refine AW.ret ?_
              refine ⟨_, Sub.refl _ _, ?_⟩
              refine KF.conv (fun w => .int .i64 w) (fun w => []) (show (-1) = (heldO a k) from by first | (rw [hR, dropCons he1, heldO, if_pos (by simp [okM, h1, h2, h3, h4, h5, h6]), if_pos (by assumption)]; done) | (rw [hR, dropCons he1, heldO, if_neg (by simp [okM, h1, h2, h3, h4, h5, h6])]; done) | (rw [hR, List.drop_of_length_le (by omega)]; rfl)) ?_
              exact KF.mk (.inr rfl) [] [.int .i64 (-1)] (by kernel_rfl) (by kernel_rfl) (by kernel_rfl) (by kernel_rfl) (by kernel_rfl)
            · have h6 : e1.msg.at_ = kk + 4 := by simpa using hb
              clear hb
              refine AW.skip ?_
              refine AW.seq ?_
              refine AW.region (At.start ?_)
              refine At.auto 2 (by kernel_rfl) ?_
              refine At.say 60 (.int .i64 (IntKind.i64.wrap ((kk + 4) + 1))) (.int .i64 (kk + 5)) (by kernel_rfl) (sayJ _ (by omega) (by omega)) ?_
              refine At.auto 1 (by kernel_rfl) ?_
              refine At.done rfl ?_
              refine AW.seq ?_
              refine AW.seq ?_
              refine AW.region (At.start ?_)
              refine At.auto 2 (by kernel_rfl) ?_
              refine At.idxSl (t := 29) (d := 63) (x := .tmp 61) (y := .tmp 62) (p := false) (es := 17) (xs := (a.map encOutV)) (kd := .i64) (i := (i : Int)) (e := 76) (by kernel_rfl) (by kernel_rfl) (by kernel_rfl) (by kernel_rfl) (by omega) (by first | omega | (simp only [List.length_map, List.length_append, List.length_take, List.length_drop, List.length_replicate, List.length_set, List.length_cons, List.length_nil]; omega)) ?_
              refine At.auto 2 (by kernel_rfl) ?_
              refine At.ldVp (t := 3) (d := 66) (x := .tmp 65) (p := false) (es := 17) (xs := (a.map encOutV)) (j := i) (off := 5) (b := false) (m := 1) (encOutV e1) (.int .i64 e1.msg.atTerm) (by kernel_rfl) (by kernel_rfl) (by kernel_rfl) (by kernel_rfl) (mapGet he1) (by kernel_rfl) ?_
              refine At.auto 2 (by kernel_rfl) ?_
              refine At.done rfl ?_
              refine AW.cond (e1.msg.atTerm != (kk + 5)) (by kernel_rfl) (fun hb => ?_) (fun hb => ?_)
              · have h7 : ¬ (e1.msg.atTerm = kk + 5) := by simpa using hb
                clear hb
                refine AW.seq ?_
                refine AW.region (At.start ?_)
                refine At.auto 1 (by kernel_rfl) ?_
                refine At.done rfl ?_
                refine AW.ret ?_
                refine ⟨_, Sub.refl _ _, ?_⟩
                refine KF.conv (fun w => .int .i64 w) (fun w => []) (show (-1) = (heldO a k) from by first | (rw [hR, dropCons he1, heldO, if_pos (by simp [okM, h1, h2, h3, h4, h5, h6, h7]), if_pos (by assumption)]; done) | (rw [hR, dropCons he1, heldO, if_neg (by simp [okM, h1, h2, h3, h4, h5, h6, h7])]; done) | (rw [hR, List.drop_of_length_le (by omega)]; rfl)) ?_
                exact KF.mk (.inr rfl) [] [.int .i64 (-1)] (by kernel_rfl) (by kernel_rfl) (by kernel_rfl) (by kernel_rfl) (by kernel_rfl)
              · have h7 : e1.msg.atTerm = kk + 5 := by simpa using hb
                clear hb
                refine AW.skip ?_
                refine AW.seq ?_
                refine AW.region (At.start ?_)
                refine At.auto 2 (by kernel_rfl) ?_
                refine At.say 70 (.int .i64 (IntKind.i64.wrap ((kk + 5) + 1))) (.int .i64 (kk + 6)) (by kernel_rfl) (sayJ _ (by omega) (by omega)) ?_
                refine At.auto 1 (by kernel_rfl) ?_
                refine At.done rfl ?_
                refine AW.seq ?_
                refine AW.seq ?_
                refine AW.region (At.start ?_)
                refine At.auto 2 (by kernel_rfl) ?_
                refine At.idxSl (t := 29) (d := 73) (x := .tmp 71) (y := .tmp 72) (p := false) (es := 17) (xs := (a.map encOutV)) (kd := .i64) (i := (i : Int)) (e := 76) (by kernel_rfl) (by kernel_rfl) (by kernel_rfl) (by kernel_rfl) (by omega) (by first | omega | (simp only [List.length_map, List.length_append, List.length_take, List.length_drop, List.length_replicate, List.length_set, List.length_cons, List.length_nil]; omega)) ?_
                refine At.auto 2 (by kernel_rfl) ?_
                refine At.ldVp (t := 3) (d := 76) (x := .tmp 75) (p := false) (es := 17) (xs := (a.map encOutV)) (j := i) (off := 6) (b := false) (m := 1) (encOutV e1) (.int .i64 e1.msg.commit) (by kernel_rfl) (by kernel_rfl) (by kernel_rfl) (by kernel_rfl) (mapGet he1) (by kernel_rfl) ?_
                refine At.auto 2 (by kernel_rfl) ?_
                refine At.done rfl ?_
                refine AW.cond (e1.msg.commit != (kk + 6)) (by kernel_rfl) (fun hb => ?_) (fun hb => ?_)
                · have h8 : ¬ (e1.msg.commit = kk + 6) := by simpa using hb
                  clear hb
                  refine AW.seq ?_
                  refine AW.region (At.start ?_)
                  refine At.auto 1 (by kernel_rfl) ?_
                  refine At.done rfl ?_
                  refine AW.ret ?_
                  refine ⟨_, Sub.refl _ _, ?_⟩
                  refine KF.conv (fun w => .int .i64 w) (fun w => []) (show (-1) = (heldO a k) from by first | (rw [hR, dropCons he1, heldO, if_pos (by simp [okM, h1, h2, h3, h4, h5, h6, h7, h8]), if_pos (by assumption)]; done) | (rw [hR, dropCons he1, heldO, if_neg (by simp [okM, h1, h2, h3, h4, h5, h6, h7, h8])]; done) | (rw [hR, List.drop_of_length_le (by omega)]; rfl)) ?_
                  exact KF.mk (.inr rfl) [] [.int .i64 (-1)] (by kernel_rfl) (by kernel_rfl) (by kernel_rfl) (by kernel_rfl) (by kernel_rfl)
                · have h8 : e1.msg.commit = kk + 6 := by simpa using hb
                  clear hb
                  refine AW.skip ?_
                  refine AW.seq ?_
                  refine AW.region (At.start ?_)
                  refine At.auto 2 (by kernel_rfl) ?_
                  refine At.say 80 (.int .i64 (IntKind.i64.wrap ((kk + 6) + 1))) (.int .i64 (kk + 7)) (by kernel_rfl) (sayJ _ (by omega) (by omega)) ?_
                  refine At.auto 1 (by kernel_rfl) ?_
                  refine At.done rfl ?_
                  refine AW.seq ?_
                  refine AW.seq ?_
                  refine AW.region (At.start ?_)
                  refine At.auto 2 (by kernel_rfl) ?_
                  refine At.idxSl (t := 29) (d := 83) (x := .tmp 81) (y := .tmp 82) (p := false) (es := 17) (xs := (a.map encOutV)) (kd := .i64) (i := (i : Int)) (e := 76) (by kernel_rfl) (by kernel_rfl) (by kernel_rfl) (by kernel_rfl) (by omega) (by first | omega | (simp only [List.length_map, List.length_append, List.length_take, List.length_drop, List.length_replicate, List.length_set, List.length_cons, List.length_nil]; omega)) ?_
                  refine At.auto 2 (by kernel_rfl) ?_
                  refine At.ldVp (t := 4) (d := 86) (x := .tmp 85) (p := false) (es := 17) (xs := (a.map encOutV)) (j := i) (off := 7) (b := false) (m := 1) (encOutV e1) (.bool e1.msg.yes) (by kernel_rfl) (by kernel_rfl) (by kernel_rfl) (by kernel_rfl) (mapGet he1) (by kernel_rfl) ?_
                  refine At.auto 1 (by kernel_rfl) ?_
                  refine At.div (t := 3) (u := 3) (d := 88) (op := .rem) (x := .tmp 87) (y := .const (.int .i64 3)) (kd := .i64) (a := kk + 7) (b := 3) (by kernel_rfl) (by kernel_rfl) (by kernel_rfl) (by kernel_rfl) (by omega) (.int .i64 ((kk + 7).tmod 3)) (.inr ⟨rfl, rfl⟩) ?_
                  refine At.say 88 (.int .i64 ((kk + 7).tmod 3)) (.int .i64 ((kk + 7) % 3)) (by kernel_rfl) (sayRem (by omega)) ?_
                  refine At.auto 1 (by kernel_rfl) ?_
                  refine At.eqB (t := 4) (u := 4) (d := 90) (op := .neq) (x := .tmp 86) (y := .tmp 89) (a := e1.msg.yes) (b := (((kk + 7) % 3) == 0)) (by kernel_rfl) (by kernel_rfl) (by kernel_rfl) (by kernel_rfl) (by kernel_rfl) (.bool (!(e1.msg.yes == (((kk + 7) % 3) == 0)))) (.inr ⟨rfl, rfl⟩) ?_
                  refine At.done rfl ?_
                  refine AW.cond (!(e1.msg.yes == (((kk + 7) % 3) == 0))) (by kernel_rfl) (fun hb => ?_) (fun hb => ?_)
                  · have h9 : (e1.msg.yes == (((kk + 7) % 3) == 0)) = false := by simpa using hb
                    clear hb
                    refine AW.seq ?_
                    refine AW.region (At.start ?_)
                    refine At.auto 1 (by kernel_rfl) ?_
                    refine At.done rfl ?_
                    refine AW.ret ?_
                    refine ⟨_, Sub.refl _ _, ?_⟩
                    refine KF.conv (fun w => .int .i64 w) (fun w => []) (show (-1) = (heldO a k) from by first | (rw [hR, dropCons he1, heldO, if_pos (by simp [okM, h1, h2, h3, h4, h5, h6, h7, h8, h9]), if_pos (by assumption)]; done) | (rw [hR, dropCons he1, heldO, if_neg (by simp [okM, h1, h2, h3, h4, h5, h6, h7, h8, h9])]; done) | (rw [hR, List.drop_of_length_le (by omega)]; rfl)) ?_
                    exact KF.mk (.inr rfl) [] [.int .i64 (-1)] (by kernel_rfl) (by kernel_rfl) (by kernel_rfl) (by kernel_rfl) (by kernel_rfl)
                  · have h9 : (e1.msg.yes == (((kk + 7) % 3) == 0)) = true := by simpa using hb
                    clear hb
                    refine AW.skip ?_
                    refine AW.seq ?_
                    refine AW.region (At.start ?_)
                    refine At.auto 2 (by kernel_rfl) ?_
                    refine At.say 92 (.int .i64 (IntKind.i64.wrap ((kk + 7) + 1))) (.int .i64 (kk + 8)) (by kernel_rfl) (sayJ _ (by omega) (by omega)) ?_
                    refine At.auto 1 (by kernel_rfl) ?_
                    refine At.done rfl ?_
                    refine AW.seq ?_
                    refine AW.seq ?_
                    refine AW.region (At.start ?_)
                    refine At.auto 2 (by kernel_rfl) ?_
                    refine At.idxSl (t := 29) (d := 95) (x := .tmp 93) (y := .tmp 94) (p := false) (es := 17) (xs := (a.map encOutV)) (kd := .i64) (i := (i : Int)) (e := 76) (by kernel_rfl) (by kernel_rfl) (by kernel_rfl) (by kernel_rfl) (by omega) (by first | omega | (simp only [List.length_map, List.length_append, List.length_take, List.length_drop, List.length_replicate, List.length_set, List.length_cons, List.length_nil]; omega)) ?_
                    refine At.auto 2 (by kernel_rfl) ?_
                    refine At.ldVp (t := 3) (d := 98) (x := .tmp 97) (p := false) (es := 17) (xs := (a.map encOutV)) (j := i) (off := 8) (b := false) (m := 1) (encOutV e1) (.int .i64 e1.msg.release) (by kernel_rfl) (by kernel_rfl) (by kernel_rfl) (by kernel_rfl) (mapGet he1) (by kernel_rfl) ?_
                    refine At.auto 2 (by kernel_rfl) ?_
                    refine At.done rfl ?_
                    refine AW.cond (e1.msg.release != (kk + 8)) (by kernel_rfl) (fun hb => ?_) (fun hb => ?_)
                    · have h10 : ¬ (e1.msg.release = kk + 8) := by simpa using hb
                      clear hb
                      refine AW.seq ?_
                      refine AW.region (At.start ?_)
                      refine At.auto 1 (by kernel_rfl) ?_
                      refine At.done rfl ?_
                      refine AW.ret ?_
                      refine ⟨_, Sub.refl _ _, ?_⟩
                      refine KF.conv (fun w => .int .i64 w) (fun w => []) (show (-1) = (heldO a k) from by first | (rw [hR, dropCons he1, heldO, if_pos (by simp [okM, h1, h2, h3, h4, h5, h6, h7, h8, h9, h10]), if_pos (by assumption)]; done) | (rw [hR, dropCons he1, heldO, if_neg (by simp [okM, h1, h2, h3, h4, h5, h6, h7, h8, h9, h10])]; done) | (rw [hR, List.drop_of_length_le (by omega)]; rfl)) ?_
                      exact KF.mk (.inr rfl) [] [.int .i64 (-1)] (by kernel_rfl) (by kernel_rfl) (by kernel_rfl) (by kernel_rfl) (by kernel_rfl)
                    · have h10 : e1.msg.release = kk + 8 := by simpa using hb
                      clear hb
                      refine AW.skip ?_
                      refine AW.seq ?_
                      refine AW.region (At.start ?_)
                      refine At.auto 2 (by kernel_rfl) ?_
                      refine At.say 102 (.int .i64 (IntKind.i64.wrap ((kk + 8) + 1))) (.int .i64 (kk + 9)) (by kernel_rfl) (sayJ _ (by omega) (by omega)) ?_
                      refine At.auto 1 (by kernel_rfl) ?_
                      refine At.done rfl ?_
                      refine AW.seq ?_
                      refine AW.seq ?_
                      refine AW.region (At.start ?_)
                      refine At.auto 2 (by kernel_rfl) ?_
                      refine At.idxSl (t := 29) (d := 105) (x := .tmp 103) (y := .tmp 104) (p := false) (es := 17) (xs := (a.map encOutV)) (kd := .i64) (i := (i : Int)) (e := 76) (by kernel_rfl) (by kernel_rfl) (by kernel_rfl) (by kernel_rfl) (by omega) (by first | omega | (simp only [List.length_map, List.length_append, List.length_take, List.length_drop, List.length_replicate, List.length_set, List.length_cons, List.length_nil]; omega)) ?_
                      refine At.auto 2 (by kernel_rfl) ?_
                      refine At.ldVp (t := 3) (d := 108) (x := .tmp 107) (p := false) (es := 17) (xs := (a.map encOutV)) (j := i) (off := 9) (b := false) (m := 1) (encOutV e1) (.int .i64 e1.msg.part) (by kernel_rfl) (by kernel_rfl) (by kernel_rfl) (by kernel_rfl) (mapGet he1) (by kernel_rfl) ?_
                      refine At.auto 2 (by kernel_rfl) ?_
                      refine At.done rfl ?_
                      refine AW.cond (e1.msg.part != (kk + 9)) (by kernel_rfl) (fun hb => ?_) (fun hb => ?_)
                      · have h11 : ¬ (e1.msg.part = kk + 9) := by simpa using hb
                        clear hb
                        refine AW.seq ?_
                        refine AW.region (At.start ?_)
                        refine At.auto 1 (by kernel_rfl) ?_
                        refine At.done rfl ?_
                        refine AW.ret ?_
                        refine ⟨_, Sub.refl _ _, ?_⟩
                        refine KF.conv (fun w => .int .i64 w) (fun w => []) (show (-1) = (heldO a k) from by first | (rw [hR, dropCons he1, heldO, if_pos (by simp [okM, h1, h2, h3, h4, h5, h6, h7, h8, h9, h10, h11]), if_pos (by assumption)]; done) | (rw [hR, dropCons he1, heldO, if_neg (by simp [okM, h1, h2, h3, h4, h5, h6, h7, h8, h9, h10, h11])]; done) | (rw [hR, List.drop_of_length_le (by omega)]; rfl)) ?_
                        exact KF.mk (.inr rfl) [] [.int .i64 (-1)] (by kernel_rfl) (by kernel_rfl) (by kernel_rfl) (by kernel_rfl) (by kernel_rfl)
                      · have h11 : e1.msg.part = kk + 9 := by simpa using hb
                        clear hb
                        refine AW.skip ?_
                        refine AW.seq ?_
                        refine AW.region (At.start ?_)
                        refine At.auto 2 (by kernel_rfl) ?_
                        refine At.say 112 (.int .i64 (IntKind.i64.wrap ((kk + 9) + 1))) (.int .i64 (kk + 10)) (by kernel_rfl) (sayJ _ (by omega) (by omega)) ?_
                        refine At.auto 1 (by kernel_rfl) ?_
                        refine At.done rfl ?_
                        refine AW.seq ?_
                        refine AW.seq ?_
                        refine AW.regionD Try_mix (At.start ?_)
                        refine At.auto 2 (by kernel_rfl) ?_
                        refine At.idxSl (t := 29) (d := 115) (x := .tmp 113) (y := .tmp 114) (p := false) (es := 17) (xs := (a.map encOutV)) (kd := .i64) (i := (i : Int)) (e := 76) (by kernel_rfl) (by kernel_rfl) (by kernel_rfl) (by kernel_rfl) (by omega) (by first | omega | (simp only [List.length_map, List.length_append, List.length_take, List.length_drop, List.length_replicate, List.length_set, List.length_cons, List.length_nil]; omega)) ?_
                        refine At.auto 2 (by kernel_rfl) ?_
                        refine At.ldVp (t := 9) (d := 118) (x := .tmp 117) (p := false) (es := 17) (xs := (a.map encOutV)) (j := i) (off := 10) (b := false) (m := 1) (encOutV e1) (.str e1.msg.bytes) (by kernel_rfl) (by kernel_rfl) (by kernel_rfl) (by kernel_rfl) (mapGet he1) (by kernel_rfl) ?_
                        refine At.auto 1 (by kernel_rfl) ?_
                        refine At.call (laws_markText_spec  (kk + 10) (by first | omega | (dsimp only; omega) | (simp only [List.length_map, List.length_append, List.length_take, List.length_drop, List.length_replicate, List.length_set, List.length_cons, List.length_nil]; omega))) Try.call48 true [] [] [] (by kernel_rfl) (by kernel_rfl) (by kernel_rfl) (by kernel_rfl) (by kernel_rfl) trivial ?_
                        refine At.auto 1 (by kernel_rfl) ?_
                        refine At.done rfl ⟨by kernel_rfl, ?_⟩
                        refine AW.cond (!(e1.msg.bytes.toList == (markT (kk + 10)).toList)) (by kernel_rfl) (fun hb => ?_) (fun hb => ?_)
                        · have h12 : ¬ (e1.msg.bytes.toList = (markT (kk + 10)).toList) := by simpa using hb
                          clear hb
                          refine AW.seq ?_
                          refine AW.region (At.start ?_)
                          refine At.auto 1 (by kernel_rfl) ?_
                          refine At.done rfl ?_
                          refine AW.ret ?_
                          refine ⟨_, Sub.refl _ _, ?_⟩
                          refine KF.conv (fun w => .int .i64 w) (fun w => []) (show (-1) = (heldO a k) from by first | (rw [hR, dropCons he1, heldO, if_pos (by simp [okM, h1, h2, h3, h4, h5, h6, h7, h8, h9, h10, h11, h12]), if_pos (by assumption)]; done) | (rw [hR, dropCons he1, heldO, if_neg (by simp [okM, h1, h2, h3, h4, h5, h6, h7, h8, h9, h10, h11, h12])]; done) | (rw [hR, List.drop_of_length_le (by omega)]; rfl)) ?_
                          exact KF.mk (.inr rfl) [] [.int .i64 (-1)] (by kernel_rfl) (by kernel_rfl) (by kernel_rfl) (by kernel_rfl) (by kernel_rfl)
                        · have h12 : e1.msg.bytes.toList = (markT (kk + 10)).toList := by simpa using hb
                          clear hb
                          refine AW.skip ?_
                          refine AW.seq ?_
                          refine AW.region (At.start ?_)
                          refine At.auto 2 (by kernel_rfl) ?_
                          refine At.say 123 (.int .i64 (IntKind.i64.wrap ((kk + 10) + 1))) (.int .i64 (kk + 11)) (by kernel_rfl) (sayJ _ (by omega) (by omega)) ?_
                          refine At.auto 1 (by kernel_rfl) ?_
                          refine At.done rfl ?_
                          refine AW.seq ?_
                          refine AW.seq ?_
                          refine AW.region (At.start ?_)
                          refine At.auto 2 (by kernel_rfl) ?_
                          refine At.idxSl (t := 29) (d := 126) (x := .tmp 124) (y := .tmp 125) (p := false) (es := 17) (xs := (a.map encOutV)) (kd := .i64) (i := (i : Int)) (e := 76) (by kernel_rfl) (by kernel_rfl) (by kernel_rfl) (by kernel_rfl) (by omega) (by first | omega | (simp only [List.length_map, List.length_append, List.length_take, List.length_drop, List.length_replicate, List.length_set, List.length_cons, List.length_nil]; omega)) ?_
                          refine At.auto 3 (by kernel_rfl) ?_
                          refine At.ldVp (t := 3) (d := 130) (x := .tmp 129) (p := false) (es := 17) (xs := (a.map encOutV)) (j := i) (off := 11) (b := false) (m := 1) (encOutV e1) (.int .i64 e1.msg.cmd.kind) (by kernel_rfl) (by kernel_rfl) (by kernel_rfl) (by kernel_rfl) (mapGet he1) (by kernel_rfl) ?_
                          refine At.auto 2 (by kernel_rfl) ?_
                          refine At.done rfl ?_
                          refine AW.cond (e1.msg.cmd.kind != (kk + 11)) (by kernel_rfl) (fun hb => ?_) (fun hb => ?_)
                          · have h13 : ¬ (e1.msg.cmd.kind = kk + 11) := by simpa using hb
                            clear hb
                            refine AW.seq ?_
                            refine AW.region (At.start ?_)
                            refine At.auto 1 (by kernel_rfl) ?_
                            refine At.done rfl ?_
                            refine AW.ret ?_
                            refine ⟨_, Sub.refl _ _, ?_⟩
                            refine KF.conv (fun w => .int .i64 w) (fun w => []) (show (-1) = (heldO a k) from by first | (rw [hR, dropCons he1, heldO, if_pos (by simp [okM, h1, h2, h3, h4, h5, h6, h7, h8, h9, h10, h11, h12, h13]), if_pos (by assumption)]; done) | (rw [hR, dropCons he1, heldO, if_neg (by simp [okM, h1, h2, h3, h4, h5, h6, h7, h8, h9, h10, h11, h12, h13])]; done) | (rw [hR, List.drop_of_length_le (by omega)]; rfl)) ?_
                            exact KF.mk (.inr rfl) [] [.int .i64 (-1)] (by kernel_rfl) (by kernel_rfl) (by kernel_rfl) (by kernel_rfl) (by kernel_rfl)
                          · have h13 : e1.msg.cmd.kind = kk + 11 := by simpa using hb
                            clear hb
                            refine AW.skip ?_
                            refine AW.seq ?_
                            refine AW.region (At.start ?_)
                            refine At.auto 2 (by kernel_rfl) ?_
                            refine At.say 134 (.int .i64 (IntKind.i64.wrap ((kk + 11) + 1))) (.int .i64 (kk + 12)) (by kernel_rfl) (sayJ _ (by omega) (by omega)) ?_
                            refine At.auto 1 (by kernel_rfl) ?_
                            refine At.done rfl ?_
                            refine AW.seq ?_
                            refine AW.seq ?_
                            refine AW.region (At.start ?_)
                            refine At.auto 2 (by kernel_rfl) ?_
                            refine At.idxSl (t := 29) (d := 137) (x := .tmp 135) (y := .tmp 136) (p := false) (es := 17) (xs := (a.map encOutV)) (kd := .i64) (i := (i : Int)) (e := 76) (by kernel_rfl) (by kernel_rfl) (by kernel_rfl) (by kernel_rfl) (by omega) (by first | omega | (simp only [List.length_map, List.length_append, List.length_take, List.length_drop, List.length_replicate, List.length_set, List.length_cons, List.length_nil]; omega)) ?_
                            refine At.auto 3 (by kernel_rfl) ?_
                            refine At.ldVp (t := 3) (d := 141) (x := .tmp 140) (p := false) (es := 17) (xs := (a.map encOutV)) (j := i) (off := 12) (b := false) (m := 1) (encOutV e1) (.int .i64 e1.msg.cmd.release) (by kernel_rfl) (by kernel_rfl) (by kernel_rfl) (by kernel_rfl) (mapGet he1) (by kernel_rfl) ?_
                            refine At.auto 2 (by kernel_rfl) ?_
                            refine At.done rfl ?_
                            refine AW.cond (e1.msg.cmd.release != (kk + 12)) (by kernel_rfl) (fun hb => ?_) (fun hb => ?_)
                            · have h14 : ¬ (e1.msg.cmd.release = kk + 12) := by simpa using hb
                              clear hb
                              refine AW.seq ?_
                              refine AW.region (At.start ?_)
                              refine At.auto 1 (by kernel_rfl) ?_
                              refine At.done rfl ?_
                              refine AW.ret ?_
                              refine ⟨_, Sub.refl _ _, ?_⟩
                              refine KF.conv (fun w => .int .i64 w) (fun w => []) (show (-1) = (heldO a k) from by first | (rw [hR, dropCons he1, heldO, if_pos (by simp [okM, h1, h2, h3, h4, h5, h6, h7, h8, h9, h10, h11, h12, h13, h14]), if_pos (by assumption)]; done) | (rw [hR, dropCons he1, heldO, if_neg (by simp [okM, h1, h2, h3, h4, h5, h6, h7, h8, h9, h10, h11, h12, h13, h14])]; done) | (rw [hR, List.drop_of_length_le (by omega)]; rfl)) ?_
                              exact KF.mk (.inr rfl) [] [.int .i64 (-1)] (by kernel_rfl) (by kernel_rfl) (by kernel_rfl) (by kernel_rfl) (by kernel_rfl)
                            · have h14 : e1.msg.cmd.release = kk + 12 := by simpa using hb
                              clear hb
                              refine AW.skip ?_
                              refine AW.seq ?_
                              refine AW.region (At.start ?_)
                              refine At.auto 2 (by kernel_rfl) ?_
                              refine At.say 145 (.int .i64 (IntKind.i64.wrap ((kk + 12) + 1))) (.int .i64 (kk + 13)) (by kernel_rfl) (sayJ _ (by omega) (by omega)) ?_
                              refine At.auto 1 (by kernel_rfl) ?_
                              refine At.done rfl ?_
                              refine AW.seq ?_
                              refine AW.seq ?_
                              refine AW.region (At.start ?_)
                              refine At.auto 2 (by kernel_rfl) ?_
                              refine At.idxSl (t := 29) (d := 148) (x := .tmp 146) (y := .tmp 147) (p := false) (es := 17) (xs := (a.map encOutV)) (kd := .i64) (i := (i : Int)) (e := 76) (by kernel_rfl) (by kernel_rfl) (by kernel_rfl) (by kernel_rfl) (by omega) (by first | omega | (simp only [List.length_map, List.length_append, List.length_take, List.length_drop, List.length_replicate, List.length_set, List.length_cons, List.length_nil]; omega)) ?_
                              refine At.auto 3 (by kernel_rfl) ?_
                              refine At.ldVp (t := 3) (d := 152) (x := .tmp 151) (p := false) (es := 17) (xs := (a.map encOutV)) (j := i) (off := 13) (b := false) (m := 1) (encOutV e1) (.int .i64 e1.msg.cmd.node) (by kernel_rfl) (by kernel_rfl) (by kernel_rfl) (by kernel_rfl) (mapGet he1) (by kernel_rfl) ?_
                              refine At.auto 2 (by kernel_rfl) ?_
                              refine At.done rfl ?_
                              refine AW.cond (e1.msg.cmd.node != (kk + 13)) (by kernel_rfl) (fun hb => ?_) (fun hb => ?_)
                              · have h15 : ¬ (e1.msg.cmd.node = kk + 13) := by simpa using hb
                                clear hb
                                refine AW.seq ?_
                                refine AW.region (At.start ?_)
                                refine At.auto 1 (by kernel_rfl) ?_
                                refine At.done rfl ?_
                                refine AW.ret ?_
                                refine ⟨_, Sub.refl _ _, ?_⟩
                                refine KF.conv (fun w => .int .i64 w) (fun w => []) (show (-1) = (heldO a k) from by first | (rw [hR, dropCons he1, heldO, if_pos (by simp [okM, h1, h2, h3, h4, h5, h6, h7, h8, h9, h10, h11, h12, h13, h14, h15]), if_pos (by assumption)]; done) | (rw [hR, dropCons he1, heldO, if_neg (by simp [okM, h1, h2, h3, h4, h5, h6, h7, h8, h9, h10, h11, h12, h13, h14, h15])]; done) | (rw [hR, List.drop_of_length_le (by omega)]; rfl)) ?_
                                exact KF.mk (.inr rfl) [] [.int .i64 (-1)] (by kernel_rfl) (by kernel_rfl) (by kernel_rfl) (by kernel_rfl) (by kernel_rfl)
                              · have h15 : e1.msg.cmd.node = kk + 13 := by simpa using hb
                                clear hb
                                refine AW.skip ?_
                                refine AW.seq ?_
                                refine AW.region (At.start ?_)
                                refine At.auto 2 (by kernel_rfl) ?_
                                refine At.say 156 (.int .i64 (IntKind.i64.wrap ((kk + 13) + 1))) (.int .i64 (kk + 14)) (by kernel_rfl) (sayJ _ (by omega) (by omega)) ?_
                                refine At.auto 1 (by kernel_rfl) ?_
                                refine At.done rfl ?_
                                refine AW.seq ?_
                                refine AW.seq ?_
                                refine AW.region (At.start ?_)
                                refine At.auto 2 (by kernel_rfl) ?_
                                refine At.idxSl (t := 29) (d := 159) (x := .tmp 157) (y := .tmp 158) (p := false) (es := 17) (xs := (a.map encOutV)) (kd := .i64) (i := (i : Int)) (e := 76) (by kernel_rfl) (by kernel_rfl) (by kernel_rfl) (by kernel_rfl) (by omega) (by first | omega | (simp only [List.length_map, List.length_append, List.length_take, List.length_drop, List.length_replicate, List.length_set, List.length_cons, List.length_nil]; omega)) ?_
                                refine At.auto 3 (by kernel_rfl) ?_
                                refine At.ldVp (t := 3) (d := 163) (x := .tmp 162) (p := false) (es := 17) (xs := (a.map encOutV)) (j := i) (off := 14) (b := false) (m := 1) (encOutV e1) (.int .i64 e1.msg.cmd.size) (by kernel_rfl) (by kernel_rfl) (by kernel_rfl) (by kernel_rfl) (mapGet he1) (by kernel_rfl) ?_
                                refine At.auto 2 (by kernel_rfl) ?_
                                refine At.done rfl ?_
                                refine AW.cond (e1.msg.cmd.size != (kk + 14)) (by kernel_rfl) (fun hb => ?_) (fun hb => ?_)
                                · have h16 : ¬ (e1.msg.cmd.size = kk + 14) := by simpa using hb
                                  clear hb
                                  refine AW.seq ?_
                                  refine AW.region (At.start ?_)
                                  refine At.auto 1 (by kernel_rfl) ?_
                                  refine At.done rfl ?_
                                  refine AW.ret ?_
                                  refine ⟨_, Sub.refl _ _, ?_⟩
                                  refine KF.conv (fun w => .int .i64 w) (fun w => []) (show (-1) = (heldO a k) from by first | (rw [hR, dropCons he1, heldO, if_pos (by simp [okM, h1, h2, h3, h4, h5, h6, h7, h8, h9, h10, h11, h12, h13, h14, h15, h16]), if_pos (by assumption)]; done) | (rw [hR, dropCons he1, heldO, if_neg (by simp [okM, h1, h2, h3, h4, h5, h6, h7, h8, h9, h10, h11, h12, h13, h14, h15, h16])]; done) | (rw [hR, List.drop_of_length_le (by omega)]; rfl)) ?_
                                  exact KF.mk (.inr rfl) [] [.int .i64 (-1)] (by kernel_rfl) (by kernel_rfl) (by kernel_rfl) (by kernel_rfl) (by kernel_rfl)
                                · have h16 : e1.msg.cmd.size = kk + 14 := by simpa using hb
                                  clear hb
                                  refine AW.skip ?_
                                  refine AW.seq ?_
                                  refine AW.region (At.start ?_)
                                  refine At.auto 2 (by kernel_rfl) ?_
                                  refine At.say 167 (.int .i64 (IntKind.i64.wrap ((kk + 14) + 1))) (.int .i64 (kk + 15)) (by kernel_rfl) (sayJ _ (by omega) (by omega)) ?_
                                  refine At.auto 1 (by kernel_rfl) ?_
                                  refine At.done rfl ?_
                                  refine AW.seq ?_
                                  refine AW.seq ?_
                                  refine AW.regionD Try_mix (At.start ?_)
                                  refine At.auto 2 (by kernel_rfl) ?_
                                  refine At.idxSl (t := 29) (d := 170) (x := .tmp 168) (y := .tmp 169) (p := false) (es := 17) (xs := (a.map encOutV)) (kd := .i64) (i := (i : Int)) (e := 76) (by kernel_rfl) (by kernel_rfl) (by kernel_rfl) (by kernel_rfl) (by omega) (by first | omega | (simp only [List.length_map, List.length_append, List.length_take, List.length_drop, List.length_replicate, List.length_set, List.length_cons, List.length_nil]; omega)) ?_
                                  refine At.auto 3 (by kernel_rfl) ?_
                                  refine At.ldVp (t := 9) (d := 174) (x := .tmp 173) (p := false) (es := 17) (xs := (a.map encOutV)) (j := i) (off := 15) (b := false) (m := 1) (encOutV e1) (.str e1.msg.cmd.digest) (by kernel_rfl) (by kernel_rfl) (by kernel_rfl) (by kernel_rfl) (mapGet he1) (by kernel_rfl) ?_
                                  refine At.auto 1 (by kernel_rfl) ?_
                                  refine At.call (laws_markText_spec  (kk + 15) (by first | omega | (dsimp only; omega) | (simp only [List.length_map, List.length_append, List.length_take, List.length_drop, List.length_replicate, List.length_set, List.length_cons, List.length_nil]; omega))) Try.call48 true [] [] [] (by kernel_rfl) (by kernel_rfl) (by kernel_rfl) (by kernel_rfl) (by kernel_rfl) trivial ?_
                                  refine At.auto 1 (by kernel_rfl) ?_
                                  refine At.done rfl ⟨by kernel_rfl, ?_⟩
                                  refine AW.cond (!(e1.msg.cmd.digest.toList == (markT (kk + 15)).toList)) (by kernel_rfl) (fun hb => ?_) (fun hb => ?_)
                                  · have h17 : ¬ (e1.msg.cmd.digest.toList = (markT (kk + 15)).toList) := by simpa using hb
                                    clear hb
                                    refine AW.seq ?_
                                    refine AW.region (At.start ?_)
                                    refine At.auto 1 (by kernel_rfl) ?_
                                    refine At.done rfl ?_
                                    refine AW.ret ?_
                                    refine ⟨_, Sub.refl _ _, ?_⟩
                                    refine KF.conv (fun w => .int .i64 w) (fun w => []) (show (-1) = (heldO a k) from by first | (rw [hR, dropCons he1, heldO, if_pos (by simp [okM, h1, h2, h3, h4, h5, h6, h7, h8, h9, h10, h11, h12, h13, h14, h15, h16, h17]), if_pos (by assumption)]; done) | (rw [hR, dropCons he1, heldO, if_neg (by simp [okM, h1, h2, h3, h4, h5, h6, h7, h8, h9, h10, h11, h12, h13, h14, h15, h16, h17])]; done) | (rw [hR, List.drop_of_length_le (by omega)]; rfl)) ?_
                                    exact KF.mk (.inr rfl) [] [.int .i64 (-1)] (by kernel_rfl) (by kernel_rfl) (by kernel_rfl) (by kernel_rfl) (by kernel_rfl)
                                  · have h17 : e1.msg.cmd.digest.toList = (markT (kk + 15)).toList := by simpa using hb
                                    clear hb
                                    refine AW.skip ?_
                                    refine AW.seq ?_
                                    refine AW.region (At.start ?_)
                                    refine At.auto 2 (by kernel_rfl) ?_
                                    refine At.say 179 (.int .i64 (IntKind.i64.wrap ((kk + 15) + 1))) (.int .i64 (kk + 16)) (by kernel_rfl) (sayJ _ (by omega) (by omega)) ?_
                                    refine At.auto 1 (by kernel_rfl) ?_
                                    refine At.done rfl ?_
                                    refine AW.seq ?_
                                    refine AW.region (At.start ?_)
                                    refine At.auto 2 (by kernel_rfl) ?_
                                    refine At.idxSl (t := 29) (d := 182) (x := .tmp 180) (y := .tmp 181) (p := false) (es := 17) (xs := (a.map encOutV)) (kd := .i64) (i := (i : Int)) (e := 76) (by kernel_rfl) (by kernel_rfl) (by kernel_rfl) (by kernel_rfl) (by omega) (by first | omega | (simp only [List.length_map, List.length_append, List.length_take, List.length_drop, List.length_replicate, List.length_set, List.length_cons, List.length_nil]; omega)) ?_
                                    refine At.auto 2 (by kernel_rfl) ?_
                                    refine At.ldVp (t := 31) (d := 185) (x := .tmp 184) (p := false) (es := 17) (xs := (a.map encOutV)) (j := i) (off := 16) (b := false) (m := 1) (encOutV e1) (.sl false 6 (e1.msg.entries.map encEnt)) (by kernel_rfl) (by kernel_rfl) (by kernel_rfl) (by kernel_rfl) (mapGet he1) (by kernel_rfl) ?_
                                    refine At.auto 1 (by kernel_rfl) ?_
                                    refine At.call (laws_heldEntryS_spec  e1.msg.entries (kk + 16) (by first | omega | (dsimp only; omega) | (simp only [List.length_map, List.length_append, List.length_take, List.length_drop, List.length_replicate, List.length_set, List.length_cons, List.length_nil]; omega)) (by first | omega | (dsimp only; omega) | (simp only [List.length_map, List.length_append, List.length_take, List.length_drop, List.length_replicate, List.length_set, List.length_cons, List.length_nil]; omega))) Try.call50 true [] [] [] (by kernel_rfl) (by kernel_rfl) (by kernel_rfl) (by kernel_rfl) (by kernel_rfl) trivial ?_
                                    have hhe := heldE_le e1.msg.entries (kk + 16) (by omega)
                                    refine At.auto 1 (by kernel_rfl) ?_
                                    refine At.done rfl ?_
                                    refine AW.seq ?_
                                    refine AW.region (At.start ?_)
                                    refine At.auto 2 (by kernel_rfl) ?_
                                    refine At.done rfl ?_
                                    refine AW.cond (decide ((held okE nxE e1.msg.entries (kk + 16)) < 0)) (by kernel_rfl) (fun hb => ?_) (fun hb => ?_)
                                    · have h18 : (held okE nxE e1.msg.entries (kk + 16)) < 0 := by simpa using hb
                                      clear hb
                                      refine AW.seq ?_
                                      refine AW.region (At.start ?_)
                                      refine At.auto 1 (by kernel_rfl) ?_
                                      refine At.done rfl ?_
                                      refine AW.ret ?_
                                      refine ⟨_, Sub.refl _ _, ?_⟩
                                      refine KF.conv (fun w => .int .i64 w) (fun w => []) (show (-1) = (heldO a k) from by first | (rw [hR, dropCons he1, heldO, if_pos (by simp [okM, h1, h2, h3, h4, h5, h6, h7, h8, h9, h10, h11, h12, h13, h14, h15, h16, h17, h18]), if_pos (by assumption)]; done) | (rw [hR, dropCons he1, heldO, if_neg (by simp [okM, h1, h2, h3, h4, h5, h6, h7, h8, h9, h10, h11, h12, h13, h14, h15, h16, h17, h18])]; done) | (rw [hR, List.drop_of_length_le (by omega)]; rfl)) ?_
                                      exact KF.mk (.inr rfl) [] [.int .i64 (-1)] (by kernel_rfl) (by kernel_rfl) (by kernel_rfl) (by kernel_rfl) (by kernel_rfl)
                                    · have h18 : ¬ ((held okE nxE e1.msg.entries (kk + 16)) < 0) := by simpa using hb
                                      clear hb
                                      refine AW.skip ?_
                                      refine AW.region (At.start ?_)
                                      refine At.auto 2 (by kernel_rfl) ?_
                                      refine At.say 11 (.int .i64 (IntKind.i64.wrap ((i : Int) + 1))) (.int .i64 ((i : Int) + 1)) (by kernel_rfl) (sayI _ (by omega)) ?_
                                      refine At.auto 1 (by kernel_rfl) ?_
                                      refine At.done rfl ?_
                                      exact ⟨(i + 1, (held okE nxE e1.msg.entries (kk + 16))), ⟨by omega, by omega, by omega, by rw [hR, dropCons he1, heldO, if_pos (by simp [okM, h1, h2, h3, h4, h5, h6, h7, h8, h9, h10, h11, h12, h13, h14, h15, h16, h17, h18]), if_neg (by assumption)]⟩, (by simp only; omega), Sub.of [] [true, true, false, false, false, true] _ _ (by kernel_rfl) (by kernel_rfl) (by kernel_rfl)⟩
  · have h1 : ¬ ((i : Int) < (a.length : Int)) := by simpa using hb
    clear hb
    refine AW.exit ?_
    refine AW.seq ?_
    refine AW.region (At.start ?_)
    refine At.auto 2 (by kernel_rfl) ?_
    refine At.done rfl ?_
    refine AW.ret ?_
    refine ⟨_, Sub.refl _ _, ?_⟩
    refine KF.conv (fun w => .int .i64 w) (fun w => []) (show (kk) = (heldO a k) from by first | (rw [hR, dropCons he1, heldO, if_pos (by simp [okM, h1]), if_pos (by assumption)]; done) | (rw [hR, dropCons he1, heldO, if_neg (by simp [okM, h1])]; done) | (rw [hR, List.drop_of_length_le (by omega)]; rfl)) ?_
    exact KF.mk (.inr rfl) [] [.int .i64 kk] (by kernel_rfl) (by kernel_rfl) (by kernel_rfl) (by kernel_rfl) (by kernel_rfl)
set_option maxRecDepth 100000 in
set_option maxHeartbeats 4000000 in
theorem laws_FnExactRaftPropose_spec  (aR : Raft) (aC : Cmd) (hb : BigR aR) (hc : (aC.digest.size : Int) ≤ big) : FnSpec Try.prog 4 [.agg [.int .i64 aR.id, .int .i64 aR.of_, .int .i64 aR.role, .int .i64 aR.commit, .int .i64 aR.hard.term, .int .i64 aR.hard.vote, .sl false 6 (aR.hard.log.map encEnt), .sl false 1 (aR.yes.map encI), .sl false 1 (aR.next.map encI), .sl false 1 (aR.match_.map encI)], .agg [.int .i64 aC.kind, .int .i64 aC.release, .int .i64 aC.node, .int .i64 aC.size, .str aC.digest]] [] (.bool true) [] := by
  refine FnSpec.of 183 Try.func4 rfl Try.ntmps4 (by simp) (AW.weakK ?_)
  refine AW.seq ?_
  refine AW.region (At.start ?_)
  refine At.auto 3 (by kernel_rfl) ?_
  refine At.done rfl ?_
  refine AW.seq ?_
  refine AW.region (At.start ?_)
  refine At.auto 1 (by kernel_rfl) ?_
  refine At.done rfl ?_
  refine AW.seq ?_
  refine AW.region (At.start ?_)
  refine At.auto 2 (by kernel_rfl) ?_
  refine At.call (laws_szRaft_spec  aR 1048576 (by first | omega | (dsimp only; omega) | (simp only [List.length_map, List.length_append, List.length_take, List.length_drop, List.length_replicate, List.length_set, List.length_cons, List.length_nil]; omega)) hb) Try.call7 true [] [] [] (by kernel_rfl) (by kernel_rfl) (by kernel_rfl) (by kernel_rfl) (by kernel_rfl) trivial ?_
  refine At.auto 1 (by kernel_rfl) ?_
  refine At.done rfl ?_
  refine AW.seq ?_
  refine AW.seq ?_
  refine AW.region (At.start ?_)
  refine At.auto 2 (by kernel_rfl) ?_
  refine At.done rfl ?_
  refine AW.cond (decide ((szRaft aR 1048576) < 0)) (by kernel_rfl) (fun hb => ?_) (fun hb => ?_)
  · have h1 : (szRaft aR 1048576) < 0 := by simpa using hb
    clear hb
    refine AW.seq ?_
    refine AW.region (At.start ?_)
    refine At.auto 1 (by kernel_rfl) ?_
    refine At.done rfl ?_
    refine AW.ret ?_
    refine ⟨_, Sub.refl _ _, ?_⟩
    exact KF.mk (.inr rfl) [] [.bool true] (by kernel_rfl) (by kernel_rfl) (by kernel_rfl) (by kernel_rfl) (by kernel_rfl)
  · have h1 : ¬ ((szRaft aR 1048576) < 0) := by simpa using hb
    clear hb
    have hzz := szRaft_small (by omega) h1
    have hz := hzz.1
    have hz2 := hzz.2
    refine AW.skip ?_
    refine AW.seq ?_
    refine AW.region (At.start ?_)
    refine At.auto 2 (by kernel_rfl) ?_
    refine At.call (laws_szCmd_spec  aC (szRaft aR 1048576) (by first | omega | (dsimp only; omega) | (simp only [List.length_map, List.length_append, List.length_take, List.length_drop, List.length_replicate, List.length_set, List.length_cons, List.length_nil]; omega)) hc) Try.call16 true [] [] [] (by kernel_rfl) (by kernel_rfl) (by kernel_rfl) (by kernel_rfl) (by kernel_rfl) trivial ?_
    refine At.auto 1 (by kernel_rfl) ?_
    refine At.done rfl ?_
    refine AW.seq ?_
    refine AW.seq ?_
    refine AW.region (At.start ?_)
    refine At.auto 2 (by kernel_rfl) ?_
    refine At.done rfl ?_
    refine AW.cond (decide ((szB (szRaft aR 1048576) aC.digest.size) < 0)) (by kernel_rfl) (fun hb => ?_) (fun hb => ?_)
    · have h2 : (szB (szRaft aR 1048576) aC.digest.size) < 0 := by simpa using hb
      clear hb
      refine AW.seq ?_
      refine AW.region (At.start ?_)
      refine At.auto 1 (by kernel_rfl) ?_
      refine At.done rfl ?_
      refine AW.ret ?_
      refine ⟨_, Sub.refl _ _, ?_⟩
      exact KF.mk (.inr rfl) [] [.bool true] (by kernel_rfl) (by kernel_rfl) (by kernel_rfl) (by kernel_rfl) (by kernel_rfl)
    · have h2 : ¬ ((szB (szRaft aR 1048576) aC.digest.size) < 0) := by simpa using hb
      clear hb
      have h2s := szB_small h2
      have hzp : SmallR (propR aR aC) := propR_small aC hz
      have hke := raftEnd_eq aR 1
      have hkp := raftEnd_eq (propR aR aC) 1
      obtain ⟨z1, z2, z3, z4⟩ := id hz
      obtain ⟨p1, p2, p3, p4⟩ := id hzp
      have hrl : (propRecs aR aC).length ≤ 10 := propRecs_len _ _
      have hfew : FewOuts (propOuts aR aC) := propOuts_few _ _
      have hre := endsR_eq (propRecs aR aC) (raftEnd (propR aR aC) 1)
      have hme := hfew.ends (ends nxR (propRecs aR aC) (raftEnd (propR aR aC) 1))
      have hmf := hfew.marks (ends nxR (propRecs aR aC) (raftEnd (propR aR aC) 1))
      refine AW.skip ?_
      refine AW.seq ?_
      refine AW.regionD Try_mix (At.start ?_)
      refine At.auto 1 (by kernel_rfl) ?_
      refine At.call (laws_toRaft_spec  aR hz) Try.call9 true [] [(1680, 0), (1681, 1), (1682, 2), (1683, 3)] [] (by kernel_rfl) (by kernel_rfl) (by kernel_rfl) (by kernel_rfl) (by kernel_rfl) trivial ?_
      refine At.auto 1 (by kernel_rfl) ?_
      refine At.call (laws_toCmd_spec  aC ) Try.call18 true [] [] [] (by kernel_rfl) (by kernel_rfl) (by kernel_rfl) (by kernel_rfl) (by kernel_rfl) trivial ?_
      refine At.call (spec_RaftPropose_spec  aR aC hz) Try.call17 false [] [(1740, 0), (1741, 1), (1742, 2), (1743, 3), (1744, 4), (1745, 5)] [(1680, 6, (aR.hard.log.map encEnt)), (1681, 1, (aR.yes.map encI)), (1682, 1, (aR.next.map encI)), (1683, 1, (aR.match_.map encI))] (by kernel_rfl) (by kernel_rfl) (by kernel_rfl) (by kernel_rfl) (by kernel_rfl) ⟨rfl, ⟨88, (aR.hard.log.map encEnt), by kernel_rfl, FrzIs.same (allP_encEnt _)⟩, rfl, ⟨3, (aR.yes.map encI), by kernel_rfl, FrzIs.same (allP_encI _)⟩, rfl, ⟨3, (aR.next.map encI), by kernel_rfl, FrzIs.same (allP_encI _)⟩, rfl, ⟨3, (aR.match_.map encI), by kernel_rfl, FrzIs.same (allP_encI _)⟩, trivial⟩ ?_
      refine At.auto 10 (by kernel_rfl) ?_
      refine At.done rfl ⟨by kernel_rfl, ?_⟩
      refine AW.seq ?_
      refine AW.region (At.start ?_)
      refine At.auto 1 (by kernel_rfl) ?_
      refine At.call (laws_toRaft_spec  aR hz) Try.call9 true [] [(1860, 0), (1861, 1), (1862, 2), (1863, 3)] [] (by kernel_rfl) (by kernel_rfl) (by kernel_rfl) (by kernel_rfl) (by kernel_rfl) trivial ?_
      refine At.auto 2 (by kernel_rfl) ?_
      refine At.done rfl ?_
      refine AW.seq ?_
      refine AW.regionD Try_mix (At.start ?_)
      refine At.auto 2 (by kernel_rfl) ?_
      refine At.call (laws_toCmd_spec  aC ) Try.call18 true [] [] [] (by kernel_rfl) (by kernel_rfl) (by kernel_rfl) (by kernel_rfl) (by kernel_rfl) trivial ?_
      refine At.call (impl_RaftPropose_spec  aR aC hz) Try.call19 false [] [(1960, 0), (1961, 1), (1962, 2), (1963, 3), (1964, 4), (1965, 5)] [(1860, 6, (aR.hard.log.map encEnt)), (1861, 1, (aR.yes.map encI)), (1862, 1, (aR.next.map encI)), (1863, 1, (aR.match_.map encI))] (by kernel_rfl) (by kernel_rfl) (by kernel_rfl) (by kernel_rfl) (by kernel_rfl) ⟨rfl, ⟨88, (aR.hard.log.map encEnt), by kernel_rfl, FrzIs.same (allP_encEnt _)⟩, rfl, ⟨3, (aR.yes.map encI), by kernel_rfl, FrzIs.same (allP_encI _)⟩, rfl, ⟨3, (aR.next.map encI), by kernel_rfl, FrzIs.same (allP_encI _)⟩, rfl, ⟨3, (aR.match_.map encI), by kernel_rfl, FrzIs.same (allP_encI _)⟩, trivial⟩ ?_
      refine At.auto 10 (by kernel_rfl) ?_
      refine At.done rfl ⟨by kernel_rfl, ?_⟩
      refine AW.seq ?_
      refine AW.seq ?_
      refine AW.region (At.start ?_)
      refine At.auto 2 (by kernel_rfl) ?_
      refine At.call (laws_eqRaft_spec  (propR aR aC) (propR aR aC) (by first | exact hz | exact hzp) (by first | exact hz | exact hzp)) Try.call12 false [] [] [(1960, 6, (((propR aR aC).hard.log).map encEnt)), (1961, 1, (((propR aR aC).yes).map encI)), (1962, 1, (((propR aR aC).next).map encI)), (1963, 1, (((propR aR aC).match_).map encI)), (1740, 6, (((propR aR aC).hard.log).map encEnt)), (1741, 1, (((propR aR aC).yes).map encI)), (1742, 1, (((propR aR aC).next).map encI)), (1743, 1, (((propR aR aC).match_).map encI))] (by kernel_rfl) (by kernel_rfl) (by kernel_rfl) (by kernel_rfl) (by kernel_rfl) ⟨rfl, ⟨88, (((propR aR aC).hard.log).map encEnt), by kernel_rfl, FrzIs.same (allP_encEnt _)⟩, rfl, ⟨3, (((propR aR aC).yes).map encI), by kernel_rfl, FrzIs.same (allP_encI _)⟩, rfl, ⟨3, (((propR aR aC).next).map encI), by kernel_rfl, FrzIs.same (allP_encI _)⟩, rfl, ⟨3, (((propR aR aC).match_).map encI), by kernel_rfl, FrzIs.same (allP_encI _)⟩, rfl, ⟨88, (((propR aR aC).hard.log).map encEnt), by kernel_rfl, FrzIs.same (allP_encEnt _)⟩, rfl, ⟨3, (((propR aR aC).yes).map encI), by kernel_rfl, FrzIs.same (allP_encI _)⟩, rfl, ⟨3, (((propR aR aC).next).map encI), by kernel_rfl, FrzIs.same (allP_encI _)⟩, rfl, ⟨3, (((propR aR aC).match_).map encI), by kernel_rfl, FrzIs.same (allP_encI _)⟩, trivial⟩ ?_
      refine At.auto 2 (by kernel_rfl) ?_
      refine At.say 57 (.bool (!(raftEq (propR aR aC) (propR aR aC)))) (.bool false) (by kernel_rfl) (sayB (by rw [show (raftEq (propR aR aC) (propR aR aC)) = true from (raftEq_refl _)]; rfl)) ?_
      refine At.auto 2 (by kernel_rfl) ?_
      refine At.call (laws_eqRecS_spec  (propRecs aR aC) (propRecs aR aC) (by first | omega | (dsimp only; omega) | (simp only [List.length_map, List.length_append, List.length_take, List.length_drop, List.length_replicate, List.length_set, List.length_cons, List.length_nil]; omega)) (by first | omega | (dsimp only; omega) | (simp only [List.length_map, List.length_append, List.length_take, List.length_drop, List.length_replicate, List.length_set, List.length_cons, List.length_nil]; omega))) Try.call20 false [] [] [(1964, 10, ((propRecs aR aC).map encRec)), (1744, 10, ((propRecs aR aC).map encRec))] (by kernel_rfl) (by kernel_rfl) (by kernel_rfl) (by kernel_rfl) (by kernel_rfl) ⟨rfl, ⟨93, ((propRecs aR aC).map encRec), by kernel_rfl, FrzIs.same (allP_encRec _)⟩, rfl, ⟨93, ((propRecs aR aC).map encRec), by kernel_rfl, FrzIs.same (allP_encRec _)⟩, trivial⟩ ?_
      refine At.auto 3 (by kernel_rfl) ?_
      refine At.say 63 (.bool (!(listEq recEq (propRecs aR aC) (propRecs aR aC)))) (.bool false) (by kernel_rfl) (sayB (by rw [show (listEq recEq (propRecs aR aC) (propRecs aR aC)) = true from (listEq_refl recEq_refl _)]; rfl)) ?_
      refine At.auto 2 (by kernel_rfl) ?_
      refine At.call (laws_eqOutS_spec  (propOuts aR aC) (propOuts aR aC) (by have := hfew.1; omega) (by have := hfew.1; omega) (fun o ho => by have := hfew.2 o ho; omega) (fun o ho => by have := hfew.2 o ho; omega)) Try.call11 false [] [] [(1965, 17, ((propOuts aR aC).map encOutV)), (1745, 17, ((propOuts aR aC).map encOutV))] (by kernel_rfl) (by kernel_rfl) (by kernel_rfl) (by kernel_rfl) (by kernel_rfl) ⟨rfl, ⟨76, ((propOuts aR aC).map encOut), by kernel_rfl, frzOut _⟩, rfl, ⟨76, ((propOuts aR aC).map encOut), by kernel_rfl, frzOut _⟩, trivial⟩ ?_
      refine At.auto 3 (by kernel_rfl) ?_
      refine At.say 69 (.bool (!(listEq outEq (propOuts aR aC) (propOuts aR aC)))) (.bool false) (by kernel_rfl) (sayB (by rw [show (listEq outEq (propOuts aR aC) (propOuts aR aC)) = true from (listEq_refl outEq_refl _)]; rfl)) ?_
      refine At.auto 2 (by kernel_rfl) ?_
      refine At.eqB (t := 4) (u := 4) (d := 72) (op := .neq) (x := .tmp 70) (y := .tmp 71) (a := (propOk aR aC)) (b := (propOk aR aC)) (by kernel_rfl) (by kernel_rfl) (by kernel_rfl) (by kernel_rfl) (by kernel_rfl) (.bool (!((propOk aR aC) == (propOk aR aC)))) (.inr ⟨rfl, rfl⟩) ?_
      refine At.auto 1 (by kernel_rfl) ?_
      refine At.done rfl ?_
      refine AW.condF (!((propOk aR aC) == (propOk aR aC))) (by kernel_rfl) (by rw [show ((propOk aR aC) == (propOk aR aC)) = true from (by simp)]; rfl) ?_
      refine AW.skip ?_
      refine AW.seq ?_
      refine AW.seq ?_
      refine AW.regionD Try_mix (At.start ?_)
      refine At.auto 2 (by kernel_rfl) ?_
      refine At.call (laws_toRaft_spec  aR hz) Try.call9 true [] [(2520, 0), (2521, 1), (2522, 2), (2523, 3)] [] (by kernel_rfl) (by kernel_rfl) (by kernel_rfl) (by kernel_rfl) (by kernel_rfl) trivial ?_
      refine At.call (laws_eqRaft_spec  aR aR (by first | exact hz | exact hzp) (by first | exact hz | exact hzp)) Try.call12 false [] [] [(1860, 6, (aR.hard.log.map encEnt)), (1861, 1, (aR.yes.map encI)), (1862, 1, (aR.next.map encI)), (1863, 1, (aR.match_.map encI)), (2520, 6, (aR.hard.log.map encEnt)), (2521, 1, (aR.yes.map encI)), (2522, 1, (aR.next.map encI)), (2523, 1, (aR.match_.map encI))] (by kernel_rfl) (by kernel_rfl) (by kernel_rfl) (by kernel_rfl) (by kernel_rfl) ⟨rfl, ⟨88, (aR.hard.log.map encEnt), by kernel_rfl, FrzIs.same (allP_encEnt _)⟩, rfl, ⟨3, (aR.yes.map encI), by kernel_rfl, FrzIs.same (allP_encI _)⟩, rfl, ⟨3, (aR.next.map encI), by kernel_rfl, FrzIs.same (allP_encI _)⟩, rfl, ⟨3, (aR.match_.map encI), by kernel_rfl, FrzIs.same (allP_encI _)⟩, rfl, ⟨88, (aR.hard.log.map encEnt), by kernel_rfl, FrzIs.same (allP_encEnt _)⟩, rfl, ⟨3, (aR.yes.map encI), by kernel_rfl, FrzIs.same (allP_encI _)⟩, rfl, ⟨3, (aR.next.map encI), by kernel_rfl, FrzIs.same (allP_encI _)⟩, rfl, ⟨3, (aR.match_.map encI), by kernel_rfl, FrzIs.same (allP_encI _)⟩, trivial⟩ ?_
      refine At.auto 1 (by kernel_rfl) ?_
      refine At.done rfl ⟨by kernel_rfl, ?_⟩
      refine AW.condF (!(raftEq aR aR)) (by kernel_rfl) (by rw [show (raftEq aR aR) = true from (raftEq_refl _)]; rfl) ?_
      refine AW.skip ?_
      refine AW.seq ?_
      refine AW.region (At.start ?_)
      refine At.auto 1 (by kernel_rfl) ?_
      refine At.done rfl ?_
      refine AW.seq ?_
      refine AW.region (At.start ?_)
      refine At.auto 2 (by kernel_rfl) ?_
      refine At.call (laws_markRaft_spec  aR 1 (by first | exact hz | exact hzp) (by first | omega | (dsimp only; omega) | (simp only [List.length_map, List.length_append, List.length_take, List.length_drop, List.length_replicate, List.length_set, List.length_cons, List.length_nil]; omega))) Try.call13 true [(1860, 0), (1861, 1), (1862, 2), (1863, 3)] [] [] (by kernel_rfl) (by kernel_rfl) (by kernel_rfl) (by kernel_rfl) (by kernel_rfl) trivial ?_
      refine At.auto 1 (by kernel_rfl) ?_
      refine At.done rfl ?_
      refine AW.seq ?_
      refine AW.seq ?_
      refine AW.region (At.start ?_)
      refine At.auto 3 (by kernel_rfl) ?_
      refine At.say 84 (.bool (decide ((raftEnd aR 1) < 0))) (.bool false) (by kernel_rfl) (sayB (decide_eq_false (by have := hke; omega))) ?_
      refine At.auto 2 (by kernel_rfl) ?_
      refine At.call (laws_eqRaft_spec  (propR aR aC) (propR aR aC) (by first | exact hz | exact hzp) (by first | exact hz | exact hzp)) Try.call12 false [] [] [(1960, 6, (((propR aR aC).hard.log).map encEnt)), (1961, 1, (((propR aR aC).yes).map encI)), (1962, 1, (((propR aR aC).next).map encI)), (1963, 1, (((propR aR aC).match_).map encI)), (1740, 6, (((propR aR aC).hard.log).map encEnt)), (1741, 1, (((propR aR aC).yes).map encI)), (1742, 1, (((propR aR aC).next).map encI)), (1743, 1, (((propR aR aC).match_).map encI))] (by kernel_rfl) (by kernel_rfl) (by kernel_rfl) (by kernel_rfl) (by kernel_rfl) ⟨rfl, ⟨88, (((propR aR aC).hard.log).map encEnt), by kernel_rfl, FrzIs.same (allP_encEnt _)⟩, rfl, ⟨3, (((propR aR aC).yes).map encI), by kernel_rfl, FrzIs.same (allP_encI _)⟩, rfl, ⟨3, (((propR aR aC).next).map encI), by kernel_rfl, FrzIs.same (allP_encI _)⟩, rfl, ⟨3, (((propR aR aC).match_).map encI), by kernel_rfl, FrzIs.same (allP_encI _)⟩, rfl, ⟨88, (((propR aR aC).hard.log).map encEnt), by kernel_rfl, FrzIs.same (allP_encEnt _)⟩, rfl, ⟨3, (((propR aR aC).yes).map encI), by kernel_rfl, FrzIs.same (allP_encI _)⟩, rfl, ⟨3, (((propR aR aC).next).map encI), by kernel_rfl, FrzIs.same (allP_encI _)⟩, rfl, ⟨3, (((propR aR aC).match_).map encI), by kernel_rfl, FrzIs.same (allP_encI _)⟩, trivial⟩ ?_
      refine At.auto 3 (by kernel_rfl) ?_
      refine At.say 90 (.bool (!(raftEq (propR aR aC) (propR aR aC)))) (.bool false) (by kernel_rfl) (sayB (by rw [show (raftEq (propR aR aC) (propR aR aC)) = true from (raftEq_refl _)]; rfl)) ?_
      refine At.auto 2 (by kernel_rfl) ?_
      refine At.call (laws_eqRecS_spec  (propRecs aR aC) (propRecs aR aC) (by first | omega | (dsimp only; omega) | (simp only [List.length_map, List.length_append, List.length_take, List.length_drop, List.length_replicate, List.length_set, List.length_cons, List.length_nil]; omega)) (by first | omega | (dsimp only; omega) | (simp only [List.length_map, List.length_append, List.length_take, List.length_drop, List.length_replicate, List.length_set, List.length_cons, List.length_nil]; omega))) Try.call20 false [] [] [(1964, 10, ((propRecs aR aC).map encRec)), (1744, 10, ((propRecs aR aC).map encRec))] (by kernel_rfl) (by kernel_rfl) (by kernel_rfl) (by kernel_rfl) (by kernel_rfl) ⟨rfl, ⟨93, ((propRecs aR aC).map encRec), by kernel_rfl, FrzIs.same (allP_encRec _)⟩, rfl, ⟨93, ((propRecs aR aC).map encRec), by kernel_rfl, FrzIs.same (allP_encRec _)⟩, trivial⟩ ?_
      refine At.auto 3 (by kernel_rfl) ?_
      refine At.say 96 (.bool (!(listEq recEq (propRecs aR aC) (propRecs aR aC)))) (.bool false) (by kernel_rfl) (sayB (by rw [show (listEq recEq (propRecs aR aC) (propRecs aR aC)) = true from (listEq_refl recEq_refl _)]; rfl)) ?_
      refine At.auto 2 (by kernel_rfl) ?_
      refine At.call (laws_eqOutS_spec  (propOuts aR aC) (propOuts aR aC) (by have := hfew.1; omega) (by have := hfew.1; omega) (fun o ho => by have := hfew.2 o ho; omega) (fun o ho => by have := hfew.2 o ho; omega)) Try.call11 false [] [] [(1965, 17, ((propOuts aR aC).map encOutV)), (1745, 17, ((propOuts aR aC).map encOutV))] (by kernel_rfl) (by kernel_rfl) (by kernel_rfl) (by kernel_rfl) (by kernel_rfl) ⟨rfl, ⟨76, ((propOuts aR aC).map encOut), by kernel_rfl, frzOut _⟩, rfl, ⟨76, ((propOuts aR aC).map encOut), by kernel_rfl, frzOut _⟩, trivial⟩ ?_
      refine At.auto 3 (by kernel_rfl) ?_
      refine At.say 102 (.bool (!(listEq outEq (propOuts aR aC) (propOuts aR aC)))) (.bool false) (by kernel_rfl) (sayB (by rw [show (listEq outEq (propOuts aR aC) (propOuts aR aC)) = true from (listEq_refl outEq_refl _)]; rfl)) ?_
      refine At.auto 2 (by kernel_rfl) ?_
      refine At.eqB (t := 4) (u := 4) (d := 105) (op := .neq) (x := .tmp 103) (y := .tmp 104) (a := (propOk aR aC)) (b := (propOk aR aC)) (by kernel_rfl) (by kernel_rfl) (by kernel_rfl) (by kernel_rfl) (by kernel_rfl) (.bool (!((propOk aR aC) == (propOk aR aC)))) (.inr ⟨rfl, rfl⟩) ?_
      refine At.auto 1 (by kernel_rfl) ?_
      refine At.done rfl ?_
      refine AW.condF (!((propOk aR aC) == (propOk aR aC))) (by kernel_rfl) (by rw [show ((propOk aR aC) == (propOk aR aC)) = true from (by simp)]; rfl) ?_
      refine AW.skip ?_
      refine AW.seq ?_
      refine AW.region (At.start ?_)
      refine At.auto 1 (by kernel_rfl) ?_
      refine At.done rfl ?_
      refine AW.seq ?_
      refine AW.region (At.start ?_)
      refine At.auto 2 (by kernel_rfl) ?_
      refine At.call (laws_markRaft_spec  (propR aR aC) 1 (by first | exact hz | exact hzp) (by first | omega | (dsimp only; omega) | (simp only [List.length_map, List.length_append, List.length_take, List.length_drop, List.length_replicate, List.length_set, List.length_cons, List.length_nil]; omega))) Try.call13 true [(1960, 0), (1961, 1), (1962, 2), (1963, 3)] [] [] (by kernel_rfl) (by kernel_rfl) (by kernel_rfl) (by kernel_rfl) (by kernel_rfl) trivial ?_
      refine At.auto 1 (by kernel_rfl) ?_
      refine At.done rfl ?_
      refine AW.seq ?_
      refine AW.region (At.start ?_)
      refine At.auto 2 (by kernel_rfl) ?_
      refine At.call (laws_markRecS_spec  (propRecs aR aC) (raftEnd (propR aR aC) 1) (by first | omega | (dsimp only; omega) | (simp only [List.length_map, List.length_append, List.length_take, List.length_drop, List.length_replicate, List.length_set, List.length_cons, List.length_nil]; omega)) (by first | omega | (dsimp only; omega) | (simp only [List.length_map, List.length_append, List.length_take, List.length_drop, List.length_replicate, List.length_set, List.length_cons, List.length_nil]; omega)) (by first | omega | (dsimp only; omega) | (simp only [List.length_map, List.length_append, List.length_take, List.length_drop, List.length_replicate, List.length_set, List.length_cons, List.length_nil]; omega))) Try.call21 true [(1964, 0)] [] [] (by kernel_rfl) (by kernel_rfl) (by kernel_rfl) (by kernel_rfl) (by kernel_rfl) trivial ?_
      refine At.auto 1 (by kernel_rfl) ?_
      refine At.done rfl ?_
      refine AW.seq ?_
      refine AW.region (At.start ?_)
      refine At.auto 2 (by kernel_rfl) ?_
      refine At.call (laws_markOutS_spec  (propOuts aR aC) (ends nxR (propRecs aR aC) (raftEnd (propR aR aC) 1)) (by first | omega | (dsimp only; omega) | (simp only [List.length_map, List.length_append, List.length_take, List.length_drop, List.length_replicate, List.length_set, List.length_cons, List.length_nil]; omega)) (by have := hfew.1; omega) (by omega) (fun o ho => by have := hfew.2 o ho; omega)) Try.call14 true [(1965, 0)] [] [] (by kernel_rfl) (by kernel_rfl) (by kernel_rfl) (by kernel_rfl) (by kernel_rfl) trivial ?_
      refine At.auto 1 (by kernel_rfl) ?_
      refine At.done rfl ?_
      refine AW.seq ?_
      refine AW.region (At.start ?_)
      refine At.auto 1 (by kernel_rfl) ?_
      refine At.done rfl ?_
      refine AW.seq ?_
      refine AW.region (At.start ?_)
      refine At.auto 2 (by kernel_rfl) ?_
      refine At.call (laws_heldRaft_spec  (⟨(propR aR aC).id, (propR aR aC).of_, (propR aR aC).role, (propR aR aC).commit, ⟨(propR aR aC).hard.term, (propR aR aC).hard.vote, (raftMark (propR aR aC) 1).hard.log⟩, (raftMark (propR aR aC) 1).yes, (raftMark (propR aR aC) 1).next, (raftMark (propR aR aC) 1).match_⟩ : Raft) 1 (raftMark_small hzp 1) (by first | omega | (dsimp only; omega) | (simp only [List.length_map, List.length_append, List.length_take, List.length_drop, List.length_replicate, List.length_set, List.length_cons, List.length_nil]; omega))) Try.call22 false [] [] [(1960, 6, (((raftMark (propR aR aC) 1).hard.log).map encEnt)), (1961, 1, (((raftMark (propR aR aC) 1).yes).map encI)), (1962, 1, (((raftMark (propR aR aC) 1).next).map encI)), (1963, 1, (((raftMark (propR aR aC) 1).match_).map encI))] (by kernel_rfl) (by kernel_rfl) (by kernel_rfl) (by kernel_rfl) (by kernel_rfl) ⟨rfl, ⟨88, (((raftMark (propR aR aC) 1).hard.log).map encEnt), by kernel_rfl, FrzIs.same (allP_encEnt _)⟩, rfl, ⟨3, (((raftMark (propR aR aC) 1).yes).map encI), by kernel_rfl, FrzIs.same (allP_encI _)⟩, rfl, ⟨3, (((raftMark (propR aR aC) 1).next).map encI), by kernel_rfl, FrzIs.same (allP_encI _)⟩, rfl, ⟨3, (((raftMark (propR aR aC) 1).match_).map encI), by kernel_rfl, FrzIs.same (allP_encI _)⟩, trivial⟩ ?_
      refine At.say 118 (.int .i64 (heldRaft (⟨(propR aR aC).id, (propR aR aC).of_, (propR aR aC).role, (propR aR aC).commit, ⟨(propR aR aC).hard.term, (propR aR aC).hard.vote, (raftMark (propR aR aC) 1).hard.log⟩, (raftMark (propR aR aC) 1).yes, (raftMark (propR aR aC) 1).next, (raftMark (propR aR aC) 1).match_⟩ : Raft) 1)) (.int .i64 (raftEnd (propR aR aC) 1)) (by kernel_rfl) (congrArg (V.int .i64) (held_raft (propR aR aC) 1 (by omega))) ?_
      refine At.auto 1 (by kernel_rfl) ?_
      refine At.done rfl ?_
      refine AW.seq ?_
      refine AW.seq ?_
      refine AW.region (At.start ?_)
      refine At.auto 2 (by kernel_rfl) ?_
      refine At.done rfl ?_
      refine AW.condF (decide ((raftEnd (propR aR aC) 1) < 0)) (by kernel_rfl) (decide_eq_false (by have := hke; omega)) ?_
      refine AW.skip ?_
      refine AW.seq ?_
      refine AW.region (At.start ?_)
      refine At.auto 2 (by kernel_rfl) ?_
      refine At.call (laws_heldRecS_spec  (marks markR nxR (propRecs aR aC) (raftEnd (propR aR aC) 1)) (raftEnd (propR aR aC) 1) (by rw [marks_len]; omega) (by rw [marks_len]; omega)) Try.call23 false [] [] [(1964, 10, ((marks markR nxR (propRecs aR aC) (raftEnd (propR aR aC) 1)).map encRec))] (by kernel_rfl) (by kernel_rfl) (by kernel_rfl) (by kernel_rfl) (by kernel_rfl) ⟨rfl, ⟨93, ((marks markR nxR (propRecs aR aC) (raftEnd (propR aR aC) 1)).map encRec), by kernel_rfl, FrzIs.same (allP_encRec _)⟩, trivial⟩ ?_
      refine At.say 123 (.int .i64 (held okR nxR (marks markR nxR (propRecs aR aC) (raftEnd (propR aR aC) 1)) (raftEnd (propR aR aC) 1))) (.int .i64 (ends nxR (propRecs aR aC) (raftEnd (propR aR aC) 1))) (by kernel_rfl) (congrArg (V.int .i64) (held_recs _ _ (by omega))) ?_
      refine At.auto 1 (by kernel_rfl) ?_
      refine At.done rfl ?_
      refine AW.seq ?_
      refine AW.seq ?_
      refine AW.region (At.start ?_)
      refine At.auto 2 (by kernel_rfl) ?_
      refine At.done rfl ?_
      refine AW.condF (decide ((ends nxR (propRecs aR aC) (raftEnd (propR aR aC) 1)) < 0)) (by kernel_rfl) (decide_eq_false (by omega)) ?_
      refine AW.skip ?_
      refine AW.seq ?_
      refine AW.region (At.start ?_)
      refine At.auto 2 (by kernel_rfl) ?_
      refine At.call (laws_heldOutS_spec  (marks markO nxO (propOuts aR aC) (ends nxR (propRecs aR aC) (raftEnd (propR aR aC) 1))) (ends nxR (propRecs aR aC) (raftEnd (propR aR aC) 1)) hmf (by first | omega | (dsimp only; omega) | (simp only [List.length_map, List.length_append, List.length_take, List.length_drop, List.length_replicate, List.length_set, List.length_cons, List.length_nil]; omega))) Try.call15 false [] [] [(1965, 17, ((marks markO nxO (propOuts aR aC) (ends nxR (propRecs aR aC) (raftEnd (propR aR aC) 1))).map encOutV))] (by kernel_rfl) (by kernel_rfl) (by kernel_rfl) (by kernel_rfl) (by kernel_rfl) ⟨rfl, ⟨76, ((marks markO nxO (propOuts aR aC) (ends nxR (propRecs aR aC) (raftEnd (propR aR aC) 1))).map encOut), by kernel_rfl, frzOut _⟩, trivial⟩ ?_
      refine At.say 128 (.int .i64 (heldO (marks markO nxO (propOuts aR aC) (ends nxR (propRecs aR aC) (raftEnd (propR aR aC) 1))) (ends nxR (propRecs aR aC) (raftEnd (propR aR aC) 1)))) (.int .i64 (ends nxO (propOuts aR aC) (ends nxR (propRecs aR aC) (raftEnd (propR aR aC) 1)))) (by kernel_rfl) (congrArg (V.int .i64) (held_outs _ _ (by omega))) ?_
      refine At.auto 1 (by kernel_rfl) ?_
      refine At.done rfl ?_
      refine AW.seq ?_
      refine AW.seq ?_
      refine AW.region (At.start ?_)
      refine At.auto 2 (by kernel_rfl) ?_
      refine At.done rfl ?_
      refine AW.condF (decide ((ends nxO (propOuts aR aC) (ends nxR (propRecs aR aC) (raftEnd (propR aR aC) 1))) < 0)) (by kernel_rfl) (decide_eq_false (by omega)) ?_
      refine AW.skip ?_
      refine AW.seq ?_
      refine AW.seq ?_
      refine AW.region (At.start ?_)
      refine At.auto 3 (by kernel_rfl) ?_
      refine At.done rfl ?_
      refine AW.condF ((ends nxO (propOuts aR aC) (ends nxR (propRecs aR aC) (raftEnd (propR aR aC) 1))) != (ends nxO (propOuts aR aC) (ends nxR (propRecs aR aC) (raftEnd (propR aR aC) 1)))) (by kernel_rfl) (by simp) ?_
      refine AW.skip ?_
      refine AW.seq ?_
      refine AW.regionD Try_mix (At.start ?_)
      refine At.auto 1 (by kernel_rfl) ?_
      refine At.call (laws_toRaft_spec  aR hz) Try.call9 true [] [(3720, 0), (3721, 1), (3722, 2), (3723, 3)] [] (by kernel_rfl) (by kernel_rfl) (by kernel_rfl) (by kernel_rfl) (by kernel_rfl) trivial ?_
      refine At.auto 1 (by kernel_rfl) ?_
      refine At.call (laws_toCmd_spec  aC ) Try.call18 true [] [] [] (by kernel_rfl) (by kernel_rfl) (by kernel_rfl) (by kernel_rfl) (by kernel_rfl) trivial ?_
      refine At.call (impl_RaftPropose_spec  aR aC hz) Try.call19 false [] [(3780, 0), (3781, 1), (3782, 2), (3783, 3), (3784, 4), (3785, 5)] [(3720, 6, (aR.hard.log.map encEnt)), (3721, 1, (aR.yes.map encI)), (3722, 1, (aR.next.map encI)), (3723, 1, (aR.match_.map encI))] (by kernel_rfl) (by kernel_rfl) (by kernel_rfl) (by kernel_rfl) (by kernel_rfl) ⟨rfl, ⟨88, (aR.hard.log.map encEnt), by kernel_rfl, FrzIs.same (allP_encEnt _)⟩, rfl, ⟨3, (aR.yes.map encI), by kernel_rfl, FrzIs.same (allP_encI _)⟩, rfl, ⟨3, (aR.next.map encI), by kernel_rfl, FrzIs.same (allP_encI _)⟩, rfl, ⟨3, (aR.match_.map encI), by kernel_rfl, FrzIs.same (allP_encI _)⟩, trivial⟩ ?_
      refine At.auto 10 (by kernel_rfl) ?_
      refine At.done rfl ⟨by kernel_rfl, ?_⟩
      refine AW.seq ?_
      refine AW.seq ?_
      refine AW.region (At.start ?_)
      refine At.auto 2 (by kernel_rfl) ?_
      refine At.call (laws_eqRaft_spec  (propR aR aC) (propR aR aC) (by first | exact hz | exact hzp) (by first | exact hz | exact hzp)) Try.call12 false [] [] [(3780, 6, (((propR aR aC).hard.log).map encEnt)), (3781, 1, (((propR aR aC).yes).map encI)), (3782, 1, (((propR aR aC).next).map encI)), (3783, 1, (((propR aR aC).match_).map encI)), (1740, 6, (((propR aR aC).hard.log).map encEnt)), (1741, 1, (((propR aR aC).yes).map encI)), (1742, 1, (((propR aR aC).next).map encI)), (1743, 1, (((propR aR aC).match_).map encI))] (by kernel_rfl) (by kernel_rfl) (by kernel_rfl) (by kernel_rfl) (by kernel_rfl) ⟨rfl, ⟨88, (((propR aR aC).hard.log).map encEnt), by kernel_rfl, FrzIs.same (allP_encEnt _)⟩, rfl, ⟨3, (((propR aR aC).yes).map encI), by kernel_rfl, FrzIs.same (allP_encI _)⟩, rfl, ⟨3, (((propR aR aC).next).map encI), by kernel_rfl, FrzIs.same (allP_encI _)⟩, rfl, ⟨3, (((propR aR aC).match_).map encI), by kernel_rfl, FrzIs.same (allP_encI _)⟩, rfl, ⟨88, (((propR aR aC).hard.log).map encEnt), by kernel_rfl, FrzIs.same (allP_encEnt _)⟩, rfl, ⟨3, (((propR aR aC).yes).map encI), by kernel_rfl, FrzIs.same (allP_encI _)⟩, rfl, ⟨3, (((propR aR aC).next).map encI), by kernel_rfl, FrzIs.same (allP_encI _)⟩, rfl, ⟨3, (((propR aR aC).match_).map encI), by kernel_rfl, FrzIs.same (allP_encI _)⟩, trivial⟩ ?_
      refine At.auto 2 (by kernel_rfl) ?_
      refine At.say 148 (.bool (!(raftEq (propR aR aC) (propR aR aC)))) (.bool false) (by kernel_rfl) (sayB (by rw [show (raftEq (propR aR aC) (propR aR aC)) = true from (raftEq_refl _)]; rfl)) ?_
      refine At.auto 2 (by kernel_rfl) ?_
      refine At.call (laws_eqRecS_spec  (propRecs aR aC) (propRecs aR aC) (by first | omega | (dsimp only; omega) | (simp only [List.length_map, List.length_append, List.length_take, List.length_drop, List.length_replicate, List.length_set, List.length_cons, List.length_nil]; omega)) (by first | omega | (dsimp only; omega) | (simp only [List.length_map, List.length_append, List.length_take, List.length_drop, List.length_replicate, List.length_set, List.length_cons, List.length_nil]; omega))) Try.call20 false [] [] [(3784, 10, ((propRecs aR aC).map encRec)), (1744, 10, ((propRecs aR aC).map encRec))] (by kernel_rfl) (by kernel_rfl) (by kernel_rfl) (by kernel_rfl) (by kernel_rfl) ⟨rfl, ⟨93, ((propRecs aR aC).map encRec), by kernel_rfl, FrzIs.same (allP_encRec _)⟩, rfl, ⟨93, ((propRecs aR aC).map encRec), by kernel_rfl, FrzIs.same (allP_encRec _)⟩, trivial⟩ ?_
      refine At.auto 3 (by kernel_rfl) ?_
      refine At.say 154 (.bool (!(listEq recEq (propRecs aR aC) (propRecs aR aC)))) (.bool false) (by kernel_rfl) (sayB (by rw [show (listEq recEq (propRecs aR aC) (propRecs aR aC)) = true from (listEq_refl recEq_refl _)]; rfl)) ?_
      refine At.auto 2 (by kernel_rfl) ?_
      refine At.call (laws_eqOutS_spec  (propOuts aR aC) (propOuts aR aC) (by have := hfew.1; omega) (by have := hfew.1; omega) (fun o ho => by have := hfew.2 o ho; omega) (fun o ho => by have := hfew.2 o ho; omega)) Try.call11 false [] [] [(3785, 17, ((propOuts aR aC).map encOutV)), (1745, 17, ((propOuts aR aC).map encOutV))] (by kernel_rfl) (by kernel_rfl) (by kernel_rfl) (by kernel_rfl) (by kernel_rfl) ⟨rfl, ⟨76, ((propOuts aR aC).map encOut), by kernel_rfl, frzOut _⟩, rfl, ⟨76, ((propOuts aR aC).map encOut), by kernel_rfl, frzOut _⟩, trivial⟩ ?_
      refine At.auto 3 (by kernel_rfl) ?_
      refine At.say 160 (.bool (!(listEq outEq (propOuts aR aC) (propOuts aR aC)))) (.bool false) (by kernel_rfl) (sayB (by rw [show (listEq outEq (propOuts aR aC) (propOuts aR aC)) = true from (listEq_refl outEq_refl _)]; rfl)) ?_
      refine At.auto 2 (by kernel_rfl) ?_
      refine At.eqB (t := 4) (u := 4) (d := 163) (op := .neq) (x := .tmp 161) (y := .tmp 162) (a := (propOk aR aC)) (b := (propOk aR aC)) (by kernel_rfl) (by kernel_rfl) (by kernel_rfl) (by kernel_rfl) (by kernel_rfl) (.bool (!((propOk aR aC) == (propOk aR aC)))) (.inr ⟨rfl, rfl⟩) ?_
      refine At.auto 1 (by kernel_rfl) ?_
      refine At.done rfl ?_
      refine AW.condF (!((propOk aR aC) == (propOk aR aC))) (by kernel_rfl) (by rw [show ((propOk aR aC) == (propOk aR aC)) = true from (by simp)]; rfl) ?_
      refine AW.skip ?_
      refine AW.seq ?_
      refine AW.region (At.start ?_)
      refine At.auto 1 (by kernel_rfl) ?_
      refine At.done rfl ?_
      refine AW.seq ?_
      refine AW.region (At.start ?_)
      refine At.auto 2 (by kernel_rfl) ?_
      refine At.call (laws_heldRaft_spec  (⟨(propR aR aC).id, (propR aR aC).of_, (propR aR aC).role, (propR aR aC).commit, ⟨(propR aR aC).hard.term, (propR aR aC).hard.vote, (raftMark (propR aR aC) 1).hard.log⟩, (raftMark (propR aR aC) 1).yes, (raftMark (propR aR aC) 1).next, (raftMark (propR aR aC) 1).match_⟩ : Raft) 1 (raftMark_small hzp 1) (by first | omega | (dsimp only; omega) | (simp only [List.length_map, List.length_append, List.length_take, List.length_drop, List.length_replicate, List.length_set, List.length_cons, List.length_nil]; omega))) Try.call22 false [] [] [(1960, 6, (((raftMark (propR aR aC) 1).hard.log).map encEnt)), (1961, 1, (((raftMark (propR aR aC) 1).yes).map encI)), (1962, 1, (((raftMark (propR aR aC) 1).next).map encI)), (1963, 1, (((raftMark (propR aR aC) 1).match_).map encI))] (by kernel_rfl) (by kernel_rfl) (by kernel_rfl) (by kernel_rfl) (by kernel_rfl) ⟨rfl, ⟨88, (((raftMark (propR aR aC) 1).hard.log).map encEnt), by kernel_rfl, FrzIs.same (allP_encEnt _)⟩, rfl, ⟨3, (((raftMark (propR aR aC) 1).yes).map encI), by kernel_rfl, FrzIs.same (allP_encI _)⟩, rfl, ⟨3, (((raftMark (propR aR aC) 1).next).map encI), by kernel_rfl, FrzIs.same (allP_encI _)⟩, rfl, ⟨3, (((raftMark (propR aR aC) 1).match_).map encI), by kernel_rfl, FrzIs.same (allP_encI _)⟩, trivial⟩ ?_
      refine At.say 167 (.int .i64 (heldRaft (⟨(propR aR aC).id, (propR aR aC).of_, (propR aR aC).role, (propR aR aC).commit, ⟨(propR aR aC).hard.term, (propR aR aC).hard.vote, (raftMark (propR aR aC) 1).hard.log⟩, (raftMark (propR aR aC) 1).yes, (raftMark (propR aR aC) 1).next, (raftMark (propR aR aC) 1).match_⟩ : Raft) 1)) (.int .i64 (raftEnd (propR aR aC) 1)) (by kernel_rfl) (congrArg (V.int .i64) (held_raft (propR aR aC) 1 (by omega))) ?_
      refine At.auto 1 (by kernel_rfl) ?_
      refine At.done rfl ?_
      refine AW.seq ?_
      refine AW.seq ?_
      refine AW.region (At.start ?_)
      refine At.auto 2 (by kernel_rfl) ?_
      refine At.done rfl ?_
      refine AW.condF (decide ((raftEnd (propR aR aC) 1) < 0)) (by kernel_rfl) (decide_eq_false (by have := hke; omega)) ?_
      refine AW.skip ?_
      refine AW.seq ?_
      refine AW.region (At.start ?_)
      refine At.auto 2 (by kernel_rfl) ?_
      refine At.call (laws_heldRecS_spec  (marks markR nxR (propRecs aR aC) (raftEnd (propR aR aC) 1)) (raftEnd (propR aR aC) 1) (by rw [marks_len]; omega) (by rw [marks_len]; omega)) Try.call23 false [] [] [(1964, 10, ((marks markR nxR (propRecs aR aC) (raftEnd (propR aR aC) 1)).map encRec))] (by kernel_rfl) (by kernel_rfl) (by kernel_rfl) (by kernel_rfl) (by kernel_rfl) ⟨rfl, ⟨93, ((marks markR nxR (propRecs aR aC) (raftEnd (propR aR aC) 1)).map encRec), by kernel_rfl, FrzIs.same (allP_encRec _)⟩, trivial⟩ ?_
      refine At.say 172 (.int .i64 (held okR nxR (marks markR nxR (propRecs aR aC) (raftEnd (propR aR aC) 1)) (raftEnd (propR aR aC) 1))) (.int .i64 (ends nxR (propRecs aR aC) (raftEnd (propR aR aC) 1))) (by kernel_rfl) (congrArg (V.int .i64) (held_recs _ _ (by omega))) ?_
      refine At.auto 1 (by kernel_rfl) ?_
      refine At.done rfl ?_
      refine AW.seq ?_
      refine AW.seq ?_
      refine AW.region (At.start ?_)
      refine At.auto 2 (by kernel_rfl) ?_
      refine At.done rfl ?_
      refine AW.condF (decide ((ends nxR (propRecs aR aC) (raftEnd (propR aR aC) 1)) < 0)) (by kernel_rfl) (decide_eq_false (by omega)) ?_
      refine AW.skip ?_
      refine AW.seq ?_
      refine AW.region (At.start ?_)
      refine At.auto 2 (by kernel_rfl) ?_
      refine At.call (laws_heldOutS_spec  (marks markO nxO (propOuts aR aC) (ends nxR (propRecs aR aC) (raftEnd (propR aR aC) 1))) (ends nxR (propRecs aR aC) (raftEnd (propR aR aC) 1)) hmf (by first | omega | (dsimp only; omega) | (simp only [List.length_map, List.length_append, List.length_take, List.length_drop, List.length_replicate, List.length_set, List.length_cons, List.length_nil]; omega))) Try.call15 false [] [] [(1965, 17, ((marks markO nxO (propOuts aR aC) (ends nxR (propRecs aR aC) (raftEnd (propR aR aC) 1))).map encOutV))] (by kernel_rfl) (by kernel_rfl) (by kernel_rfl) (by kernel_rfl) (by kernel_rfl) ⟨rfl, ⟨76, ((marks markO nxO (propOuts aR aC) (ends nxR (propRecs aR aC) (raftEnd (propR aR aC) 1))).map encOut), by kernel_rfl, frzOut _⟩, trivial⟩ ?_
      refine At.say 177 (.int .i64 (heldO (marks markO nxO (propOuts aR aC) (ends nxR (propRecs aR aC) (raftEnd (propR aR aC) 1))) (ends nxR (propRecs aR aC) (raftEnd (propR aR aC) 1)))) (.int .i64 (ends nxO (propOuts aR aC) (ends nxR (propRecs aR aC) (raftEnd (propR aR aC) 1)))) (by kernel_rfl) (congrArg (V.int .i64) (held_outs _ _ (by omega))) ?_
      refine At.auto 1 (by kernel_rfl) ?_
      refine At.done rfl ?_
      refine AW.seq ?_
      refine AW.seq ?_
      refine AW.region (At.start ?_)
      refine At.auto 2 (by kernel_rfl) ?_
      refine At.done rfl ?_
      refine AW.condF (decide ((ends nxO (propOuts aR aC) (ends nxR (propRecs aR aC) (raftEnd (propR aR aC) 1))) < 0)) (by kernel_rfl) (decide_eq_false (by omega)) ?_
      refine AW.skip ?_
      refine AW.seq ?_
      refine AW.seq ?_
      refine AW.region (At.start ?_)
      refine At.auto 3 (by kernel_rfl) ?_
      refine At.done rfl ?_
      refine AW.condF ((ends nxO (propOuts aR aC) (ends nxR (propRecs aR aC) (raftEnd (propR aR aC) 1))) != (ends nxO (propOuts aR aC) (ends nxR (propRecs aR aC) (raftEnd (propR aR aC) 1)))) (by kernel_rfl) (by simp) ?_
      refine AW.skip ?_
      refine AW.seq ?_
      refine AW.region (At.start ?_)
      refine At.auto 1 (by kernel_rfl) ?_
      refine At.done rfl ?_
      refine AW.ret ?_
      refine ⟨_, Sub.refl _ _, ?_⟩
      exact KF.mk (.inr rfl) [] [.bool true] (by kernel_rfl) (by kernel_rfl) (by kernel_rfl) (by kernel_rfl) (by kernel_rfl)
end Go.Proofs.Ytlmadhahghiedaa
