/- The contracts of the functions that FnExactOnSend reaches (each: what it answers, said over values), printed by a program of this session (wip/sy/g/gen.py). -/
import Derived.Test.YtlmadhahghiedaaGreatFFnExactOnSend6
set_option linter.unusedVariables false
set_option linter.unusedSimpArgs false
namespace Go.Proofs.YtlmadhahghiedaaGreat
open Go Go.Sy Go.Proofs
set_option maxRecDepth 100000 in
set_option maxHeartbeats 4000000 in
theorem laws_heldOutS_spec  (a : List Out) (k : Int) (ha : FewOuts a) (hk : 0 ≤ k ∧ k ≤ 4611686017427387904) : FnSpec Tryz.prog 52 [.sl false 17 (a.map encOutV), .int .i64 k] [] (.int .i64 (heldO a k)) [] := by
  obtain ⟨ha1, ha2⟩ := id ha
  refine FnSpec.of 191 Tryz.func52 rfl Tryz.ntmps52 (by simp) (AW.weakK ?_)
  refine AW.r ?_
  refine At.a 1 ?_
  refine At.done rfl ?_
  refine AW.seq ?_
  refine AW.r ?_
  refine At.a 1 ?_
  refine At.done rfl ?_
  refine AW.block ?_
  refine AW.loopW (fun (x : Nat × Int) => match x with | (i, kk) => Go.Sy.mk [.sl false 17 (a.map encOutV), .int .i64 kk, .un, .un, .un, .int .i64 (i : Int)] []) (fun (x : Nat × Int) => match x with | (i, kk) => i ≤ a.length ∧ 0 ≤ kk ∧ kk ≤ k + 1000 * i ∧ heldO a k = heldO (a.drop i) kk) (fun (x : Nat × Int) => match x with | (i, kk) => a.length - i) (0, k) ⟨by omega, by omega, by omega, by rw [List.drop_zero]⟩ (Sub.o [] [true, true, false, false, false, true]) ?_
  rintro ⟨i, kk⟩ ⟨hi, hkk, hkb, hR⟩
  refine AW.seq ?_
  refine AW.r ?_
  refine At.a 3 ?_
  refine At.sL 8 encOutV a ?_
  refine At.a 1 ?_
  refine At.done rfl ?_
  refine AW.cD ((i : Int) < (a.length : Int)) (fun h1 => ?_) (fun h1 => ?_)
  · skip
    refine AW.skip ?_
    refine AW.seq ?_
    refine AW.block ?_
    refine AW.seq ?_
    refine AW.r ?_
    refine At.a 2 ?_
    refine At.iSl 38 14 (.tmp 12) (.tmp 13) false 17 (a.map encOutV) .i64 (i : Int) 51 (by omega) (by simp only [List.length_map, List.length_append, List.length_take, List.length_drop, List.length_replicate, List.length_set, List.length_cons, List.length_nil]; omega) ?_
    refine At.a 1 ?_
    refine Exists.elim (show ∃ e, a[i]? = some e from ⟨_, List.getElem?_eq_getElem (by omega)⟩) fun e1 he1 => ?_
    have hen := ha2 _ (List.mem_of_getElem? he1)
    refine At.lVp 3 16 (.tmp 15) false 17 (a.map encOutV) i 0 false 1 (encOutV e1) (.int .i64 e1.to) (mapGet he1) ?_
    refine At.a 2 ?_
    refine At.done rfl ?_
    refine AW.cU e1.to kk (fun h2 => ?_) (fun h2 => ?_)
    · skip
      refine AW.r ?_
      refine At.a 1 ?_
      refine At.done rfl ?_
      refine AW.ret ?_
      refine ⟨_, Sub.refl _ _, ?_⟩
      refine KF.conv (fun w => .int .i64 w) (fun w => []) (show (-1) = (heldO a k) from by rw [hR, dropCons he1, heldO, if_neg (by simp [okM, h1, h2])]) ?_
      exact KF.m [] [.int .i64 (-1)]
    · skip
      refine AW.skip ?_
      refine AW.r ?_
      refine At.a 2 ?_
      refine At.sI 20 (kk + 1) (by omega) ?_
      refine At.a 1 ?_
      refine At.done rfl ?_
      refine AW.seq ?_
      refine AW.r ?_
      refine At.a 2 ?_
      refine At.iSl 38 23 (.tmp 21) (.tmp 22) false 17 (a.map encOutV) .i64 (i : Int) 51 (by omega) (by simp only [List.length_map, List.length_append, List.length_take, List.length_drop, List.length_replicate, List.length_set, List.length_cons, List.length_nil]; omega) ?_
      refine At.a 2 ?_
      refine At.lVp 3 26 (.tmp 25) false 17 (a.map encOutV) i 1 false 1 (encOutV e1) (.int .i64 e1.msg.kind) (mapGet he1) ?_
      refine At.a 2 ?_
      refine At.done rfl ?_
      refine AW.cU e1.msg.kind (kk + 1) (fun h3 => ?_) (fun h3 => ?_)
      · skip
        refine AW.r ?_
        refine At.a 1 ?_
        refine At.done rfl ?_
        refine AW.ret ?_
        refine ⟨_, Sub.refl _ _, ?_⟩
        refine KF.conv (fun w => .int .i64 w) (fun w => []) (show (-1) = (heldO a k) from by rw [hR, dropCons he1, heldO, if_neg (by simp [okM, h1, h2, h3])]) ?_
        exact KF.m [] [.int .i64 (-1)]
      · skip
        refine AW.skip ?_
        refine AW.r ?_
        refine At.a 2 ?_
        refine At.sJ 30 ((kk + 1) + 1) (kk + 2) (by omega) (by omega) ?_
        refine At.a 1 ?_
        refine At.done rfl ?_
        refine AW.seq ?_
        refine AW.r ?_
        refine At.a 2 ?_
        refine At.iSl 38 33 (.tmp 31) (.tmp 32) false 17 (a.map encOutV) .i64 (i : Int) 51 (by omega) (by simp only [List.length_map, List.length_append, List.length_take, List.length_drop, List.length_replicate, List.length_set, List.length_cons, List.length_nil]; omega) ?_
        refine At.a 2 ?_
        refine At.lVp 3 36 (.tmp 35) false 17 (a.map encOutV) i 2 false 1 (encOutV e1) (.int .i64 e1.msg.from_) (mapGet he1) ?_
        refine At.a 2 ?_
        refine At.done rfl ?_
        refine AW.cU e1.msg.from_ (kk + 2) (fun h4 => ?_) (fun h4 => ?_)
        · skip
          refine AW.r ?_
          refine At.a 1 ?_
          refine At.done rfl ?_
          refine AW.ret ?_
          refine ⟨_, Sub.refl _ _, ?_⟩
          refine KF.conv (fun w => .int .i64 w) (fun w => []) (show (-1) = (heldO a k) from by rw [hR, dropCons he1, heldO, if_neg (by simp [okM, h1, h2, h3, h4])]) ?_
          exact KF.m [] [.int .i64 (-1)]
        · skip
          refine AW.skip ?_
          refine AW.r ?_
          refine At.a 2 ?_
          refine At.sJ 40 ((kk + 2) + 1) (kk + 3) (by omega) (by omega) ?_
          refine At.a 1 ?_
          refine At.done rfl ?_
          refine AW.seq ?_
          refine AW.r ?_
          refine At.a 2 ?_
          refine At.iSl 38 43 (.tmp 41) (.tmp 42) false 17 (a.map encOutV) .i64 (i : Int) 51 (by omega) (by simp only [List.length_map, List.length_append, List.length_take, List.length_drop, List.length_replicate, List.length_set, List.length_cons, List.length_nil]; omega) ?_
          refine At.a 2 ?_
          refine At.lVp 3 46 (.tmp 45) false 17 (a.map encOutV) i 3 false 1 (encOutV e1) (.int .i64 e1.msg.term) (mapGet he1) ?_
          refine At.a 2 ?_
          refine At.done rfl ?_
          refine AW.cU e1.msg.term (kk + 3) (fun h5 => ?_) (fun h5 => ?_)
          · skip
            refine AW.r ?_
            refine At.a 1 ?_
            refine At.done rfl ?_
            refine AW.ret ?_
            refine ⟨_, Sub.refl _ _, ?_⟩
            refine KF.conv (fun w => .int .i64 w) (fun w => []) (show (-1) = (heldO a k) from by rw [hR, dropCons he1, heldO, if_neg (by simp [okM, h1, h2, h3, h4, h5])]) ?_
            exact KF.m [] [.int .i64 (-1)]
          · skip
            refine AW.skip ?_
            refine AW.r ?_
            refine At.a 2 ?_
            refine At.sJ 50 ((kk + 3) + 1) (kk + 4) (by omega) (by omega) ?_
            refine At.a 1 ?_
            refine At.done rfl ?_
            refine AW.seq ?_
            refine AW.r ?_
            refine At.a 2 ?_
            refine At.iSl 38 53 (.tmp 51) (.tmp 52) false 17 (a.map encOutV) .i64 (i : Int) 51 (by omega) (by simp only [List.length_map, List.length_append, List.length_take, List.length_drop, List.length_replicate, List.length_set, List.length_cons, List.length_nil]; omega) ?_
            refine At.a 2 ?_
            refine At.lVp 3 56 (.tmp 55) false 17 (a.map encOutV) i 4 false 1 (encOutV e1) (.int .i64 e1.msg.at_) (mapGet he1) ?_
            refine At.a 2 ?_
            refine At.done rfl ?_
            refine AW.cU e1.msg.at_ (kk + 4) (fun h6 => ?_) (fun h6 => ?_)
            · skip
              refine AW.r ?_
              refine At.a 1 ?_
              refine At.done rfl ?_
              refine AW.ret ?_
              refine ⟨_, Sub.refl _ _, ?_⟩
              refine KF.conv (fun w => .int .i64 w) (fun w => []) (show (-1) = (heldO a k) from by rw [hR, dropCons he1, heldO, if_neg (by simp [okM, h1, h2, h3, h4, h5, h6])]) ?_
              exact KF.m [] [.int .i64 (-1)]
            · skip
              refine AW.skip ?_
              refine AW.r ?_
              refine At.a 2 ?_
              refine At.sJ 60 ((kk + 4) + 1) (kk + 5) (by omega) (by omega) ?_
              refine At.a 1 ?_
              refine At.done rfl ?_
              refine AW.seq ?_
              refine AW.r ?_
              refine At.a 2 ?_
              refine At.iSl 38 63 (.tmp 61) (.tmp 62) false 17 (a.map encOutV) .i64 (i : Int) 51 (by omega) (by simp only [List.length_map, List.length_append, List.length_take, List.length_drop, List.length_replicate, List.length_set, List.length_cons, List.length_nil]; omega) ?_
              refine At.a 2 ?_
              refine At.lVp 3 66 (.tmp 65) false 17 (a.map encOutV) i 5 false 1 (encOutV e1) (.int .i64 e1.msg.atTerm) (mapGet he1) ?_
              refine At.a 2 ?_
              refine At.done rfl ?_
              refine AW.cU e1.msg.atTerm (kk + 5) (fun h7 => ?_) (fun h7 => ?_)
              · skip
                refine AW.r ?_
                refine At.a 1 ?_
                refine At.done rfl ?_
                refine AW.ret ?_
                refine ⟨_, Sub.refl _ _, ?_⟩
                refine KF.conv (fun w => .int .i64 w) (fun w => []) (show (-1) = (heldO a k) from by rw [hR, dropCons he1, heldO, if_neg (by simp [okM, h1, h2, h3, h4, h5, h6, h7])]) ?_
                exact KF.m [] [.int .i64 (-1)]
              · skip
                refine AW.skip ?_
                refine AW.r ?_
                refine At.a 2 ?_
                refine At.sJ 70 ((kk + 5) + 1) (kk + 6) (by omega) (by omega) ?_
                refine At.a 1 ?_
                refine At.done rfl ?_
                refine AW.seq ?_
                refine AW.r ?_
                refine At.a 2 ?_
                refine At.iSl 38 73 (.tmp 71) (.tmp 72) false 17 (a.map encOutV) .i64 (i : Int) 51 (by omega) (by simp only [List.length_map, List.length_append, List.length_take, List.length_drop, List.length_replicate, List.length_set, List.length_cons, List.length_nil]; omega) ?_
                refine At.a 2 ?_
                refine At.lVp 3 76 (.tmp 75) false 17 (a.map encOutV) i 6 false 1 (encOutV e1) (.int .i64 e1.msg.commit) (mapGet he1) ?_
                refine At.a 2 ?_
                refine At.done rfl ?_
                refine AW.cU e1.msg.commit (kk + 6) (fun h8 => ?_) (fun h8 => ?_)
                · skip
                  refine AW.r ?_
                  refine At.a 1 ?_
                  refine At.done rfl ?_
                  refine AW.ret ?_
                  refine ⟨_, Sub.refl _ _, ?_⟩
                  refine KF.conv (fun w => .int .i64 w) (fun w => []) (show (-1) = (heldO a k) from by rw [hR, dropCons he1, heldO, if_neg (by simp [okM, h1, h2, h3, h4, h5, h6, h7, h8])]) ?_
                  exact KF.m [] [.int .i64 (-1)]
                · skip
                  refine AW.skip ?_
                  refine AW.r ?_
                  refine At.a 2 ?_
                  refine At.sJ 80 ((kk + 6) + 1) (kk + 7) (by omega) (by omega) ?_
                  refine At.a 1 ?_
                  refine At.done rfl ?_
                  refine AW.seq ?_
                  refine AW.r ?_
                  refine At.a 2 ?_
                  refine At.iSl 38 83 (.tmp 81) (.tmp 82) false 17 (a.map encOutV) .i64 (i : Int) 51 (by omega) (by simp only [List.length_map, List.length_append, List.length_take, List.length_drop, List.length_replicate, List.length_set, List.length_cons, List.length_nil]; omega) ?_
                  refine At.a 2 ?_
                  refine At.lVp 4 86 (.tmp 85) false 17 (a.map encOutV) i 7 false 1 (encOutV e1) (.bool e1.msg.yes) (mapGet he1) ?_
                  refine At.a 1 ?_
                  refine At.div (t := 3) (u := 3) (d := 88) (op := .rem) (x := .tmp 87) (y := .const (.int .i64 3)) (kd := .i64) (a := kk + 7) (b := 3) (by kernel_rfl) (by kernel_rfl) (by kernel_rfl) (by kernel_rfl) (by omega) (.int .i64 ((kk + 7).tmod 3)) (.inr ⟨rfl, rfl⟩) ?_
                  refine At.say 88 (.int .i64 ((kk + 7).tmod 3)) (.int .i64 ((kk + 7) % 3)) (by kernel_rfl) (sayRem (by omega)) ?_
                  refine At.a 1 ?_
                  refine At.eqB (t := 4) (u := 4) (d := 90) (op := .neq) (x := .tmp 86) (y := .tmp 89) (a := e1.msg.yes) (b := (((kk + 7) % 3) == 0)) (by kernel_rfl) (by kernel_rfl) (by kernel_rfl) (by kernel_rfl) (by kernel_rfl) (.bool (!(e1.msg.yes == (((kk + 7) % 3) == 0)))) (.inr ⟨rfl, rfl⟩) ?_
                  refine At.done rfl ?_
                  refine AW.cNB (e1.msg.yes == (((kk + 7) % 3) == 0)) (fun h9 => ?_) (fun h9 => ?_)
                  · skip
                    refine AW.r ?_
                    refine At.a 1 ?_
                    refine At.done rfl ?_
                    refine AW.ret ?_
                    refine ⟨_, Sub.refl _ _, ?_⟩
                    refine KF.conv (fun w => .int .i64 w) (fun w => []) (show (-1) = (heldO a k) from by rw [hR, dropCons he1, heldO, if_neg (by simp [okM, h1, h2, h3, h4, h5, h6, h7, h8, h9])]) ?_
                    exact KF.m [] [.int .i64 (-1)]
                  · skip
                    refine AW.skip ?_
                    refine AW.r ?_
                    refine At.a 2 ?_
                    refine At.sJ 92 ((kk + 7) + 1) (kk + 8) (by omega) (by omega) ?_
                    refine At.a 1 ?_
                    refine At.done rfl ?_
                    refine AW.seq ?_
                    refine AW.r ?_
                    refine At.a 2 ?_
                    refine At.iSl 38 95 (.tmp 93) (.tmp 94) false 17 (a.map encOutV) .i64 (i : Int) 51 (by omega) (by simp only [List.length_map, List.length_append, List.length_take, List.length_drop, List.length_replicate, List.length_set, List.length_cons, List.length_nil]; omega) ?_
                    refine At.a 2 ?_
                    refine At.lVp 3 98 (.tmp 97) false 17 (a.map encOutV) i 8 false 1 (encOutV e1) (.int .i64 e1.msg.release) (mapGet he1) ?_
                    refine At.a 2 ?_
                    refine At.done rfl ?_
                    refine AW.cU e1.msg.release (kk + 8) (fun h10 => ?_) (fun h10 => ?_)
                    · skip
                      refine AW.r ?_
                      refine At.a 1 ?_
                      refine At.done rfl ?_
                      refine AW.ret ?_
                      refine ⟨_, Sub.refl _ _, ?_⟩
                      refine KF.conv (fun w => .int .i64 w) (fun w => []) (show (-1) = (heldO a k) from by rw [hR, dropCons he1, heldO, if_neg (by simp [okM, h1, h2, h3, h4, h5, h6, h7, h8, h9, h10])]) ?_
                      exact KF.m [] [.int .i64 (-1)]
                    · skip
                      refine AW.skip ?_
                      refine AW.r ?_
                      refine At.a 2 ?_
                      refine At.sJ 102 ((kk + 8) + 1) (kk + 9) (by omega) (by omega) ?_
                      refine At.a 1 ?_
                      refine At.done rfl ?_
                      refine AW.seq ?_
                      refine AW.r ?_
                      refine At.a 2 ?_
                      refine At.iSl 38 105 (.tmp 103) (.tmp 104) false 17 (a.map encOutV) .i64 (i : Int) 51 (by omega) (by simp only [List.length_map, List.length_append, List.length_take, List.length_drop, List.length_replicate, List.length_set, List.length_cons, List.length_nil]; omega) ?_
                      refine At.a 2 ?_
                      refine At.lVp 3 108 (.tmp 107) false 17 (a.map encOutV) i 9 false 1 (encOutV e1) (.int .i64 e1.msg.part) (mapGet he1) ?_
                      refine At.a 2 ?_
                      refine At.done rfl ?_
                      refine AW.cU e1.msg.part (kk + 9) (fun h11 => ?_) (fun h11 => ?_)
                      · skip
                        refine AW.r ?_
                        refine At.a 1 ?_
                        refine At.done rfl ?_
                        refine AW.ret ?_
                        refine ⟨_, Sub.refl _ _, ?_⟩
                        refine KF.conv (fun w => .int .i64 w) (fun w => []) (show (-1) = (heldO a k) from by rw [hR, dropCons he1, heldO, if_neg (by simp [okM, h1, h2, h3, h4, h5, h6, h7, h8, h9, h10, h11])]) ?_
                        exact KF.m [] [.int .i64 (-1)]
                      · skip
                        refine AW.skip ?_
                        refine AW.r ?_
                        refine At.a 2 ?_
                        refine At.sJ 112 ((kk + 9) + 1) (kk + 10) (by omega) (by omega) ?_
                        refine At.a 1 ?_
                        refine At.done rfl ?_
                        refine AW.seq ?_
                        refine AW.seq ?_
                        refine AW.regionD Tryz_mix (At.start ?_)
                        refine At.a 2 ?_
                        refine At.iSl 38 115 (.tmp 113) (.tmp 114) false 17 (a.map encOutV) .i64 (i : Int) 51 (by omega) (by simp only [List.length_map, List.length_append, List.length_take, List.length_drop, List.length_replicate, List.length_set, List.length_cons, List.length_nil]; omega) ?_
                        refine At.a 2 ?_
                        refine At.lVp 9 118 (.tmp 117) false 17 (a.map encOutV) i 10 false 1 (encOutV e1) (.str e1.msg.bytes) (mapGet he1) ?_
                        refine At.a 1 ?_
                        refine At.c (laws_markText_spec  (kk + 10) (by omega)) Tryz.call133 true [] [] [] trivial ?_
                        refine At.a 1 ?_
                        refine At.done rfl ⟨by kernel_rfl, ?_⟩
                        refine AW.cNE (e1.msg.bytes.toList) ((markT (kk + 10)).toList) (fun h12 => ?_) (fun h12 => ?_)
                        · skip
                          refine AW.r ?_
                          refine At.a 1 ?_
                          refine At.done rfl ?_
                          refine AW.ret ?_
                          refine ⟨_, Sub.refl _ _, ?_⟩
                          refine KF.conv (fun w => .int .i64 w) (fun w => []) (show (-1) = (heldO a k) from by rw [hR, dropCons he1, heldO, if_neg (by simp [okM, h1, h2, h3, h4, h5, h6, h7, h8, h9, h10, h11, h12])]) ?_
                          exact KF.m [] [.int .i64 (-1)]
                        · skip
                          refine AW.skip ?_
                          refine AW.r ?_
                          refine At.a 2 ?_
                          refine At.sJ 123 ((kk + 10) + 1) (kk + 11) (by omega) (by omega) ?_
                          refine At.a 1 ?_
                          refine At.done rfl ?_
                          refine AW.seq ?_
                          refine AW.r ?_
                          refine At.a 2 ?_
                          refine At.iSl 38 126 (.tmp 124) (.tmp 125) false 17 (a.map encOutV) .i64 (i : Int) 51 (by omega) (by simp only [List.length_map, List.length_append, List.length_take, List.length_drop, List.length_replicate, List.length_set, List.length_cons, List.length_nil]; omega) ?_
                          refine At.a 3 ?_
                          refine At.lVp 3 130 (.tmp 129) false 17 (a.map encOutV) i 11 false 1 (encOutV e1) (.int .i64 e1.msg.cmd.kind) (mapGet he1) ?_
                          refine At.a 2 ?_
                          refine At.done rfl ?_
                          refine AW.cU e1.msg.cmd.kind (kk + 11) (fun h13 => ?_) (fun h13 => ?_)
                          · skip
                            refine AW.r ?_
                            refine At.a 1 ?_
                            refine At.done rfl ?_
                            refine AW.ret ?_
                            refine ⟨_, Sub.refl _ _, ?_⟩
                            refine KF.conv (fun w => .int .i64 w) (fun w => []) (show (-1) = (heldO a k) from by rw [hR, dropCons he1, heldO, if_neg (by simp [okM, h1, h2, h3, h4, h5, h6, h7, h8, h9, h10, h11, h12, h13])]) ?_
                            exact KF.m [] [.int .i64 (-1)]
                          · skip
                            refine AW.skip ?_
                            refine AW.r ?_
                            refine At.a 2 ?_
                            refine At.sJ 134 ((kk + 11) + 1) (kk + 12) (by omega) (by omega) ?_
                            refine At.a 1 ?_
                            refine At.done rfl ?_
                            refine AW.seq ?_
                            refine AW.r ?_
                            refine At.a 2 ?_
                            refine At.iSl 38 137 (.tmp 135) (.tmp 136) false 17 (a.map encOutV) .i64 (i : Int) 51 (by omega) (by simp only [List.length_map, List.length_append, List.length_take, List.length_drop, List.length_replicate, List.length_set, List.length_cons, List.length_nil]; omega) ?_
                            refine At.a 3 ?_
                            refine At.lVp 3 141 (.tmp 140) false 17 (a.map encOutV) i 12 false 1 (encOutV e1) (.int .i64 e1.msg.cmd.release) (mapGet he1) ?_
                            refine At.a 2 ?_
                            refine At.done rfl ?_
                            refine AW.cU e1.msg.cmd.release (kk + 12) (fun h14 => ?_) (fun h14 => ?_)
                            · skip
                              refine AW.r ?_
                              refine At.a 1 ?_
                              refine At.done rfl ?_
                              refine AW.ret ?_
                              refine ⟨_, Sub.refl _ _, ?_⟩
                              refine KF.conv (fun w => .int .i64 w) (fun w => []) (show (-1) = (heldO a k) from by rw [hR, dropCons he1, heldO, if_neg (by simp [okM, h1, h2, h3, h4, h5, h6, h7, h8, h9, h10, h11, h12, h13, h14])]) ?_
                              exact KF.m [] [.int .i64 (-1)]
                            · skip
                              refine AW.skip ?_
                              refine AW.r ?_
                              refine At.a 2 ?_
                              refine At.sJ 145 ((kk + 12) + 1) (kk + 13) (by omega) (by omega) ?_
                              refine At.a 1 ?_
                              refine At.done rfl ?_
                              refine AW.seq ?_
                              refine AW.r ?_
                              refine At.a 2 ?_
                              refine At.iSl 38 148 (.tmp 146) (.tmp 147) false 17 (a.map encOutV) .i64 (i : Int) 51 (by omega) (by simp only [List.length_map, List.length_append, List.length_take, List.length_drop, List.length_replicate, List.length_set, List.length_cons, List.length_nil]; omega) ?_
                              refine At.a 3 ?_
                              refine At.lVp 3 152 (.tmp 151) false 17 (a.map encOutV) i 13 false 1 (encOutV e1) (.int .i64 e1.msg.cmd.node) (mapGet he1) ?_
                              refine At.a 2 ?_
                              refine At.done rfl ?_
                              refine AW.cU e1.msg.cmd.node (kk + 13) (fun h15 => ?_) (fun h15 => ?_)
                              · skip
                                refine AW.r ?_
                                refine At.a 1 ?_
                                refine At.done rfl ?_
                                refine AW.ret ?_
                                refine ⟨_, Sub.refl _ _, ?_⟩
                                refine KF.conv (fun w => .int .i64 w) (fun w => []) (show (-1) = (heldO a k) from by rw [hR, dropCons he1, heldO, if_neg (by simp [okM, h1, h2, h3, h4, h5, h6, h7, h8, h9, h10, h11, h12, h13, h14, h15])]) ?_
                                exact KF.m [] [.int .i64 (-1)]
                              · skip
                                refine AW.skip ?_
                                refine AW.r ?_
                                refine At.a 2 ?_
                                refine At.sJ 156 ((kk + 13) + 1) (kk + 14) (by omega) (by omega) ?_
                                refine At.a 1 ?_
                                refine At.done rfl ?_
                                refine AW.seq ?_
                                refine AW.r ?_
                                refine At.a 2 ?_
                                refine At.iSl 38 159 (.tmp 157) (.tmp 158) false 17 (a.map encOutV) .i64 (i : Int) 51 (by omega) (by simp only [List.length_map, List.length_append, List.length_take, List.length_drop, List.length_replicate, List.length_set, List.length_cons, List.length_nil]; omega) ?_
                                refine At.a 3 ?_
                                refine At.lVp 3 163 (.tmp 162) false 17 (a.map encOutV) i 14 false 1 (encOutV e1) (.int .i64 e1.msg.cmd.size) (mapGet he1) ?_
                                refine At.a 2 ?_
                                refine At.done rfl ?_
                                refine AW.cU e1.msg.cmd.size (kk + 14) (fun h16 => ?_) (fun h16 => ?_)
                                · skip
                                  refine AW.r ?_
                                  refine At.a 1 ?_
                                  refine At.done rfl ?_
                                  refine AW.ret ?_
                                  refine ⟨_, Sub.refl _ _, ?_⟩
                                  refine KF.conv (fun w => .int .i64 w) (fun w => []) (show (-1) = (heldO a k) from by rw [hR, dropCons he1, heldO, if_neg (by simp [okM, h1, h2, h3, h4, h5, h6, h7, h8, h9, h10, h11, h12, h13, h14, h15, h16])]) ?_
                                  exact KF.m [] [.int .i64 (-1)]
                                · skip
                                  refine AW.skip ?_
                                  refine AW.r ?_
                                  refine At.a 2 ?_
                                  refine At.sJ 167 ((kk + 14) + 1) (kk + 15) (by omega) (by omega) ?_
                                  refine At.a 1 ?_
                                  refine At.done rfl ?_
                                  refine AW.seq ?_
                                  refine AW.seq ?_
                                  refine AW.regionD Tryz_mix (At.start ?_)
                                  refine At.a 2 ?_
                                  refine At.iSl 38 170 (.tmp 168) (.tmp 169) false 17 (a.map encOutV) .i64 (i : Int) 51 (by omega) (by simp only [List.length_map, List.length_append, List.length_take, List.length_drop, List.length_replicate, List.length_set, List.length_cons, List.length_nil]; omega) ?_
                                  refine At.a 3 ?_
                                  refine At.lVp 9 174 (.tmp 173) false 17 (a.map encOutV) i 15 false 1 (encOutV e1) (.str e1.msg.cmd.digest) (mapGet he1) ?_
                                  refine At.a 1 ?_
                                  refine At.c (laws_markText_spec  (kk + 15) (by omega)) Tryz.call133 true [] [] [] trivial ?_
                                  refine At.a 1 ?_
                                  refine At.done rfl ⟨by kernel_rfl, ?_⟩
                                  refine AW.cNE (e1.msg.cmd.digest.toList) ((markT (kk + 15)).toList) (fun h17 => ?_) (fun h17 => ?_)
                                  · skip
                                    refine AW.r ?_
                                    refine At.a 1 ?_
                                    refine At.done rfl ?_
                                    refine AW.ret ?_
                                    refine ⟨_, Sub.refl _ _, ?_⟩
                                    refine KF.conv (fun w => .int .i64 w) (fun w => []) (show (-1) = (heldO a k) from by rw [hR, dropCons he1, heldO, if_neg (by simp [okM, h1, h2, h3, h4, h5, h6, h7, h8, h9, h10, h11, h12, h13, h14, h15, h16, h17])]) ?_
                                    exact KF.m [] [.int .i64 (-1)]
                                  · skip
                                    refine AW.skip ?_
                                    refine AW.r ?_
                                    refine At.a 2 ?_
                                    refine At.sJ 179 ((kk + 15) + 1) (kk + 16) (by omega) (by omega) ?_
                                    refine At.a 1 ?_
                                    refine At.done rfl ?_
                                    refine AW.r ?_
                                    refine At.a 2 ?_
                                    refine At.iSl 38 182 (.tmp 180) (.tmp 181) false 17 (a.map encOutV) .i64 (i : Int) 51 (by omega) (by simp only [List.length_map, List.length_append, List.length_take, List.length_drop, List.length_replicate, List.length_set, List.length_cons, List.length_nil]; omega) ?_
                                    refine At.a 2 ?_
                                    refine At.lVp 24 185 (.tmp 184) false 17 (a.map encOutV) i 16 false 1 (encOutV e1) (.sl false 6 (e1.msg.entries.map encEnt)) (mapGet he1) ?_
                                    refine At.a 1 ?_
                                    refine At.c (laws_heldEntryS_spec  e1.msg.entries (kk + 16) (by omega) (by omega)) Tryz.call136 true [] [] [] trivial ?_
                                    have hhe := heldE_le e1.msg.entries (kk + 16) (by omega)
                                    refine At.a 1 ?_
                                    refine At.done rfl ?_
                                    refine AW.r ?_
                                    refine At.a 2 ?_
                                    refine At.done rfl ?_
                                    refine AW.cD ((held okE nxE e1.msg.entries (kk + 16)) < 0) (fun h18 => ?_) (fun h18 => ?_)
                                    · skip
                                      refine AW.r ?_
                                      refine At.a 1 ?_
                                      refine At.done rfl ?_
                                      refine AW.ret ?_
                                      refine ⟨_, Sub.refl _ _, ?_⟩
                                      refine KF.conv (fun w => .int .i64 w) (fun w => []) (show (-1) = (heldO a k) from by rw [hR, dropCons he1, heldO, if_pos (by simp [okM, h1, h2, h3, h4, h5, h6, h7, h8, h9, h10, h11, h12, h13, h14, h15, h16, h17, h18]), if_pos (by assumption)]) ?_
                                      exact KF.m [] [.int .i64 (-1)]
                                    · skip
                                      refine AW.skip ?_
                                      refine AW.region (At.start ?_)
                                      refine At.a 2 ?_
                                      refine At.sI 11 ((i : Int) + 1) (by omega) ?_
                                      refine At.a 1 ?_
                                      refine At.done rfl ?_
                                      exact ⟨(i + 1, (held okE nxE e1.msg.entries (kk + 16))), ⟨by omega, by omega, by omega, by rw [hR, dropCons he1, heldO, if_pos (by simp [okM, h1, h2, h3, h4, h5, h6, h7, h8, h9, h10, h11, h12, h13, h14, h15, h16, h17, h18]), if_neg (by assumption)]⟩, (by simp only; omega), Sub.o [] [true, true, false, false, false, true]⟩
  · skip
    refine AW.exit ?_
    refine AW.r ?_
    refine At.a 2 ?_
    refine At.done rfl ?_
    refine AW.ret ?_
    refine ⟨_, Sub.refl _ _, ?_⟩
    refine KF.conv (fun w => .int .i64 w) (fun w => []) (show (kk) = (heldO a k) from by rw [hR, List.drop_of_length_le (by omega)]; rfl) ?_
    exact KF.m [] [.int .i64 kk]
set_option maxRecDepth 100000 in
set_option maxHeartbeats 4000000 in
theorem laws_FnExactOnSend_spec  (aR : Raft) (aM : Msg) (hb : BigR aR) (hd : BigM aM) : FnSpec Tryz.prog 9 [.agg [.int .i64 aR.id, .int .i64 aR.of_, .int .i64 aR.role, .int .i64 aR.commit, .int .i64 aR.hard.term, .int .i64 aR.hard.vote, .sl false 6 (aR.hard.log.map encEnt), .sl false 1 (aR.yes.map encI), .sl false 1 (aR.next.map encI), .sl false 1 (aR.match_.map encI)], .agg [.int .i64 aM.kind, .int .i64 aM.from_, .int .i64 aM.term, .int .i64 aM.at_, .int .i64 aM.atTerm, .int .i64 aM.commit, .bool aM.yes, .int .i64 aM.release, .int .i64 aM.part, .str aM.bytes, .int .i64 aM.cmd.kind, .int .i64 aM.cmd.release, .int .i64 aM.cmd.node, .int .i64 aM.cmd.size, .str aM.cmd.digest, .sl false 6 (aM.entries.map encEnt)]] [] (.bool true) [] := by
  refine FnSpec.of 172 Tryz.func9 rfl Tryz.ntmps9 (by simp) (AW.weakK ?_)
  refine AW.r ?_
  refine At.a 3 ?_
  refine At.done rfl ?_
  refine AW.r ?_
  refine At.a 1 ?_
  refine At.done rfl ?_
  refine AW.r ?_
  refine At.a 2 ?_
  refine At.c (laws_szRaft_spec  aR 1048576 (by omega) hb) Tryz.call38 true [] [] [] trivial ?_
  refine At.a 1 ?_
  refine At.done rfl ?_
  refine AW.seq ?_
  refine AW.r ?_
  refine At.a 2 ?_
  refine At.done rfl ?_
  refine AW.cD ((szRaft aR 1048576) < 0) (fun h1 => ?_) (fun h1 => ?_)
  · skip
    refine AW.r ?_
    refine At.a 1 ?_
    refine At.done rfl ?_
    refine AW.ret ?_
    refine ⟨_, Sub.refl _ _, ?_⟩
    exact KF.m [] [.bool true]
  · skip
    have hzz := szRaft_small (by omega) h1
    have hz := hzz.1
    have hz2 := hzz.2
    refine AW.skip ?_
    refine AW.r ?_
    refine At.a 2 ?_
    refine At.c (laws_szMsg_spec  aM (szRaft aR 1048576) (by omega) hd) Tryz.call39 true [] [] [] trivial ?_
    refine At.a 1 ?_
    refine At.done rfl ?_
    refine AW.seq ?_
    refine AW.r ?_
    refine At.a 2 ?_
    refine At.done rfl ?_
    refine AW.cD ((szMsg aM (szRaft aR 1048576)) < 0) (fun h2 => ?_) (fun h2 => ?_)
    · skip
      refine AW.r ?_
      refine At.a 1 ?_
      refine At.done rfl ?_
      refine AW.ret ?_
      refine ⟨_, Sub.refl _ _, ?_⟩
      exact KF.m [] [.bool true]
    · skip
      have hzp : SmallR ((sends aR aM).1) := sends_small aM hz
      have hke := raftEnd_eq aR 1
      have hkp := raftEnd_eq ((sends aR aM).1) 1
      obtain ⟨z1, z2, z3, z4⟩ := id hz
      obtain ⟨p1, p2, p3, p4⟩ := id hzp
      have hrl : ((sends aR aM).2.1).length ≤ 20 := sends_len _ _
      have hfew : FewOuts ((sends aR aM).2.2) := sends_few _ _
      have hre := endsR_eq ((sends aR aM).2.1) (raftEnd ((sends aR aM).1) 1)
      have hme := hfew.ends (ends nxR ((sends aR aM).2.1) (raftEnd ((sends aR aM).1) 1))
      have hmf := hfew.marks (ends nxR ((sends aR aM).2.1) (raftEnd ((sends aR aM).1) 1))
      have hm := (szMsg_small (by omega) h2).1
      have hee := endsE_eq aM.entries (raftEnd aR 1)
      refine AW.skip ?_
      refine AW.seq ?_
      refine AW.regionD Tryz_mix (At.start ?_)
      refine At.a 1 ?_
      refine At.c (laws_toRaft_spec  aR hz) Tryz.call40 true [] [(1640, 0), (1641, 1), (1642, 2), (1643, 3)] [] trivial ?_
      refine At.a 1 ?_
      refine At.c (laws_toMsg_spec  aM hm) Tryz.call41 true [] [(1680, 0)] [] trivial ?_
      refine At.c (spec_OnSend_spec  aR aM hz hm) Tryz.call53 false [] [(1700, 0), (1701, 1), (1702, 2), (1703, 3), (1704, 4), (1705, 5)] [(1640, 6, (aR.hard.log.map encEnt)), (1641, 1, (aR.yes.map encI)), (1642, 1, (aR.next.map encI)), (1643, 1, (aR.match_.map encI)), (1680, 6, (aM.entries.map encEnt))] ⟨rfl, ⟨45, (aR.hard.log.map encEnt), by kernel_rfl, FrzIs.same (allP_encEnt _)⟩, rfl, ⟨3, (aR.yes.map encI), by kernel_rfl, FrzIs.same (allP_encI _)⟩, rfl, ⟨3, (aR.next.map encI), by kernel_rfl, FrzIs.same (allP_encI _)⟩, rfl, ⟨3, (aR.match_.map encI), by kernel_rfl, FrzIs.same (allP_encI _)⟩, rfl, ⟨45, (aM.entries.map encEnt), by kernel_rfl, FrzIs.same (allP_encEnt _)⟩, trivial⟩ ?_
      refine At.a 8 ?_
      refine At.done rfl ⟨by kernel_rfl, ?_⟩
      refine AW.r ?_
      refine At.a 1 ?_
      refine At.c (laws_toRaft_spec  aR hz) Tryz.call40 true [] [(1800, 0), (1801, 1), (1802, 2), (1803, 3)] [] trivial ?_
      refine At.a 2 ?_
      refine At.done rfl ?_
      refine AW.r ?_
      refine At.a 1 ?_
      refine At.c (laws_toMsg_spec  aM hm) Tryz.call41 true [] [(1840, 0)] [] trivial ?_
      refine At.a 2 ?_
      refine At.done rfl ?_
      refine AW.r ?_
      refine At.a 2 ?_
      refine At.c (impl_OnSend_spec  aR aM hz hm) Tryz.call27 false [] [(1920, 0), (1921, 1), (1922, 2), (1923, 3), (1924, 4), (1925, 5)] [(1800, 6, (aR.hard.log.map encEnt)), (1801, 1, (aR.yes.map encI)), (1802, 1, (aR.next.map encI)), (1803, 1, (aR.match_.map encI)), (1840, 6, (aM.entries.map encEnt))] ⟨rfl, ⟨45, (aR.hard.log.map encEnt), by kernel_rfl, FrzIs.same (allP_encEnt _)⟩, rfl, ⟨3, (aR.yes.map encI), by kernel_rfl, FrzIs.same (allP_encI _)⟩, rfl, ⟨3, (aR.next.map encI), by kernel_rfl, FrzIs.same (allP_encI _)⟩, rfl, ⟨3, (aR.match_.map encI), by kernel_rfl, FrzIs.same (allP_encI _)⟩, rfl, ⟨45, (aM.entries.map encEnt), by kernel_rfl, FrzIs.same (allP_encEnt _)⟩, trivial⟩ ?_
      refine At.a 8 ?_
      refine At.done rfl ?_
      refine AW.seq ?_
      refine AW.r ?_
      refine At.a 2 ?_
      refine At.c (laws_eqRaft_spec  ((sends aR aM).1) ((sends aR aM).1) (by exact hzp) (by exact hzp)) Tryz.call42 false [] [] [(1920, 6, ((((sends aR aM).1).hard.log).map encEnt)), (1921, 1, ((((sends aR aM).1).yes).map encI)), (1922, 1, ((((sends aR aM).1).next).map encI)), (1923, 1, ((((sends aR aM).1).match_).map encI)), (1700, 6, ((((sends aR aM).1).hard.log).map encEnt)), (1701, 1, ((((sends aR aM).1).yes).map encI)), (1702, 1, ((((sends aR aM).1).next).map encI)), (1703, 1, ((((sends aR aM).1).match_).map encI))] ⟨rfl, ⟨45, ((((sends aR aM).1).hard.log).map encEnt), by kernel_rfl, FrzIs.same (allP_encEnt _)⟩, rfl, ⟨3, ((((sends aR aM).1).yes).map encI), by kernel_rfl, FrzIs.same (allP_encI _)⟩, rfl, ⟨3, ((((sends aR aM).1).next).map encI), by kernel_rfl, FrzIs.same (allP_encI _)⟩, rfl, ⟨3, ((((sends aR aM).1).match_).map encI), by kernel_rfl, FrzIs.same (allP_encI _)⟩, rfl, ⟨45, ((((sends aR aM).1).hard.log).map encEnt), by kernel_rfl, FrzIs.same (allP_encEnt _)⟩, rfl, ⟨3, ((((sends aR aM).1).yes).map encI), by kernel_rfl, FrzIs.same (allP_encI _)⟩, rfl, ⟨3, ((((sends aR aM).1).next).map encI), by kernel_rfl, FrzIs.same (allP_encI _)⟩, rfl, ⟨3, ((((sends aR aM).1).match_).map encI), by kernel_rfl, FrzIs.same (allP_encI _)⟩, trivial⟩ ?_
      refine At.a 2 ?_
      refine At.sB 54 (!(raftEq ((sends aR aM).1) ((sends aR aM).1))) false (sayB (by rw [show (raftEq ((sends aR aM).1) ((sends aR aM).1)) = true from (raftEq_refl _)]; rfl)) ?_
      refine At.a 2 ?_
      refine At.c (laws_eqRecS_spec  ((sends aR aM).2.1) ((sends aR aM).2.1) (by omega) (by omega)) Tryz.call43 false [] [] [(1924, 10, (((sends aR aM).2.1).map encRec)), (1704, 10, (((sends aR aM).2.1).map encRec))] ⟨rfl, ⟨47, (((sends aR aM).2.1).map encRec), by kernel_rfl, FrzIs.same (allP_encRec _)⟩, rfl, ⟨47, (((sends aR aM).2.1).map encRec), by kernel_rfl, FrzIs.same (allP_encRec _)⟩, trivial⟩ ?_
      refine At.a 3 ?_
      refine At.sB 60 (!(listEq recEq ((sends aR aM).2.1) ((sends aR aM).2.1))) false (sayB (by rw [show (listEq recEq ((sends aR aM).2.1) ((sends aR aM).2.1)) = true from (listEq_refl recEq_refl _)]; rfl)) ?_
      refine At.a 2 ?_
      refine At.c (laws_eqOutS_spec  ((sends aR aM).2.2) ((sends aR aM).2.2) (by have := hfew.1; omega) (by have := hfew.1; omega) (fun o ho => by have := hfew.2 o ho; omega) (fun o ho => by have := hfew.2 o ho; omega)) Tryz.call44 false [] [] [(1925, 17, (((sends aR aM).2.2).map encOutV)), (1705, 17, (((sends aR aM).2.2).map encOutV))] ⟨rfl, ⟨51, (((sends aR aM).2.2).map encOut), by kernel_rfl, frzOut _⟩, rfl, ⟨51, (((sends aR aM).2.2).map encOut), by kernel_rfl, frzOut _⟩, trivial⟩ ?_
      refine At.a 2 ?_
      refine At.done rfl ?_
      refine AW.condF (!(listEq outEq ((sends aR aM).2.2) ((sends aR aM).2.2))) (by kernel_rfl) (by rw [show (listEq outEq ((sends aR aM).2.2) ((sends aR aM).2.2)) = true from (listEq_refl outEq_refl _)]; rfl) ?_
      refine AW.skip ?_
      refine AW.seq ?_
      refine AW.seq ?_
      refine AW.regionD Tryz_mix (At.start ?_)
      refine At.a 2 ?_
      refine At.c (laws_toRaft_spec  aR hz) Tryz.call40 true [] [(2360, 0), (2361, 1), (2362, 2), (2363, 3)] [] trivial ?_
      refine At.c (laws_eqRaft_spec  aR aR (by exact hz) (by exact hz)) Tryz.call42 false [] [] [(1800, 6, (aR.hard.log.map encEnt)), (1801, 1, (aR.yes.map encI)), (1802, 1, (aR.next.map encI)), (1803, 1, (aR.match_.map encI)), (2360, 6, (aR.hard.log.map encEnt)), (2361, 1, (aR.yes.map encI)), (2362, 1, (aR.next.map encI)), (2363, 1, (aR.match_.map encI))] ⟨rfl, ⟨45, (aR.hard.log.map encEnt), by kernel_rfl, FrzIs.same (allP_encEnt _)⟩, rfl, ⟨3, (aR.yes.map encI), by kernel_rfl, FrzIs.same (allP_encI _)⟩, rfl, ⟨3, (aR.next.map encI), by kernel_rfl, FrzIs.same (allP_encI _)⟩, rfl, ⟨3, (aR.match_.map encI), by kernel_rfl, FrzIs.same (allP_encI _)⟩, rfl, ⟨45, (aR.hard.log.map encEnt), by kernel_rfl, FrzIs.same (allP_encEnt _)⟩, rfl, ⟨3, (aR.yes.map encI), by kernel_rfl, FrzIs.same (allP_encI _)⟩, rfl, ⟨3, (aR.next.map encI), by kernel_rfl, FrzIs.same (allP_encI _)⟩, rfl, ⟨3, (aR.match_.map encI), by kernel_rfl, FrzIs.same (allP_encI _)⟩, trivial⟩ ?_
      refine At.a 1 ?_
      refine At.done rfl ⟨by kernel_rfl, ?_⟩
      refine AW.condF (!(raftEq aR aR)) (by kernel_rfl) (by rw [show (raftEq aR aR) = true from (raftEq_refl _)]; rfl) ?_
      refine AW.skip ?_
      refine AW.seq ?_
      refine AW.seq ?_
      refine AW.regionD Tryz_mix (At.start ?_)
      refine At.a 2 ?_
      refine At.c (laws_toMsg_spec  aM hm) Tryz.call41 true [] [(2460, 0)] [] trivial ?_
      refine At.c (laws_eqMsg_spec  aM aM hm hm) Tryz.call45 false [] [] [(1840, 6, (aM.entries.map encEnt)), (2460, 6, (aM.entries.map encEnt))] ⟨rfl, ⟨45, (aM.entries.map encEnt), by kernel_rfl, FrzIs.same (allP_encEnt _)⟩, rfl, ⟨45, (aM.entries.map encEnt), by kernel_rfl, FrzIs.same (allP_encEnt _)⟩, trivial⟩ ?_
      refine At.a 1 ?_
      refine At.done rfl ⟨by kernel_rfl, ?_⟩
      refine AW.condF (!(msgEq aM aM)) (by kernel_rfl) (by rw [show (msgEq aM aM) = true from (msgEq_refl _)]; rfl) ?_
      refine AW.skip ?_
      refine AW.r ?_
      refine At.a 1 ?_
      refine At.done rfl ?_
      refine AW.r ?_
      refine At.a 2 ?_
      refine At.c (laws_markRaft_spec  aR 1 (by exact hz) (by omega)) Tryz.call46 true [(1800, 0), (1801, 1), (1802, 2), (1803, 3)] [] [] trivial ?_
      refine At.a 1 ?_
      refine At.done rfl ?_
      refine AW.r ?_
      refine At.a 2 ?_
      refine At.c (laws_markMsg_spec  aM (raftEnd aR 1) (by omega) hm (by omega)) Tryz.call47 true [(1840, 0)] [] [] trivial ?_
      refine At.a 1 ?_
      refine At.done rfl ?_
      refine AW.seq ?_
      refine AW.r ?_
      refine At.a 3 ?_
      refine At.sB 84 (decide ((ends nxE aM.entries (raftEnd aR 1)) < 0)) false (sayB (decide_eq_false (by omega))) ?_
      refine At.a 2 ?_
      refine At.c (laws_eqRaft_spec  ((sends aR aM).1) ((sends aR aM).1) (by exact hzp) (by exact hzp)) Tryz.call42 false [] [] [(1920, 6, ((((sends aR aM).1).hard.log).map encEnt)), (1921, 1, ((((sends aR aM).1).yes).map encI)), (1922, 1, ((((sends aR aM).1).next).map encI)), (1923, 1, ((((sends aR aM).1).match_).map encI)), (1700, 6, ((((sends aR aM).1).hard.log).map encEnt)), (1701, 1, ((((sends aR aM).1).yes).map encI)), (1702, 1, ((((sends aR aM).1).next).map encI)), (1703, 1, ((((sends aR aM).1).match_).map encI))] ⟨rfl, ⟨45, ((((sends aR aM).1).hard.log).map encEnt), by kernel_rfl, FrzIs.same (allP_encEnt _)⟩, rfl, ⟨3, ((((sends aR aM).1).yes).map encI), by kernel_rfl, FrzIs.same (allP_encI _)⟩, rfl, ⟨3, ((((sends aR aM).1).next).map encI), by kernel_rfl, FrzIs.same (allP_encI _)⟩, rfl, ⟨3, ((((sends aR aM).1).match_).map encI), by kernel_rfl, FrzIs.same (allP_encI _)⟩, rfl, ⟨45, ((((sends aR aM).1).hard.log).map encEnt), by kernel_rfl, FrzIs.same (allP_encEnt _)⟩, rfl, ⟨3, ((((sends aR aM).1).yes).map encI), by kernel_rfl, FrzIs.same (allP_encI _)⟩, rfl, ⟨3, ((((sends aR aM).1).next).map encI), by kernel_rfl, FrzIs.same (allP_encI _)⟩, rfl, ⟨3, ((((sends aR aM).1).match_).map encI), by kernel_rfl, FrzIs.same (allP_encI _)⟩, trivial⟩ ?_
      refine At.a 3 ?_
      refine At.sB 90 (!(raftEq ((sends aR aM).1) ((sends aR aM).1))) false (sayB (by rw [show (raftEq ((sends aR aM).1) ((sends aR aM).1)) = true from (raftEq_refl _)]; rfl)) ?_
      refine At.a 2 ?_
      refine At.c (laws_eqRecS_spec  ((sends aR aM).2.1) ((sends aR aM).2.1) (by omega) (by omega)) Tryz.call43 false [] [] [(1924, 10, (((sends aR aM).2.1).map encRec)), (1704, 10, (((sends aR aM).2.1).map encRec))] ⟨rfl, ⟨47, (((sends aR aM).2.1).map encRec), by kernel_rfl, FrzIs.same (allP_encRec _)⟩, rfl, ⟨47, (((sends aR aM).2.1).map encRec), by kernel_rfl, FrzIs.same (allP_encRec _)⟩, trivial⟩ ?_
      refine At.a 3 ?_
      refine At.sB 96 (!(listEq recEq ((sends aR aM).2.1) ((sends aR aM).2.1))) false (sayB (by rw [show (listEq recEq ((sends aR aM).2.1) ((sends aR aM).2.1)) = true from (listEq_refl recEq_refl _)]; rfl)) ?_
      refine At.a 2 ?_
      refine At.c (laws_eqOutS_spec  ((sends aR aM).2.2) ((sends aR aM).2.2) (by have := hfew.1; omega) (by have := hfew.1; omega) (fun o ho => by have := hfew.2 o ho; omega) (fun o ho => by have := hfew.2 o ho; omega)) Tryz.call44 false [] [] [(1925, 17, (((sends aR aM).2.2).map encOutV)), (1705, 17, (((sends aR aM).2.2).map encOutV))] ⟨rfl, ⟨51, (((sends aR aM).2.2).map encOut), by kernel_rfl, frzOut _⟩, rfl, ⟨51, (((sends aR aM).2.2).map encOut), by kernel_rfl, frzOut _⟩, trivial⟩ ?_
      refine At.a 2 ?_
      refine At.done rfl ?_
      refine AW.condF (!(listEq outEq ((sends aR aM).2.2) ((sends aR aM).2.2))) (by kernel_rfl) (by rw [show (listEq outEq ((sends aR aM).2.2) ((sends aR aM).2.2)) = true from (listEq_refl outEq_refl _)]; rfl) ?_
      refine AW.skip ?_
      refine AW.r ?_
      refine At.a 1 ?_
      refine At.done rfl ?_
      refine AW.r ?_
      refine At.a 2 ?_
      refine At.c (laws_markRaft_spec  ((sends aR aM).1) 1 (by exact hzp) (by omega)) Tryz.call46 true [(1920, 0), (1921, 1), (1922, 2), (1923, 3)] [] [] trivial ?_
      refine At.a 1 ?_
      refine At.done rfl ?_
      refine AW.r ?_
      refine At.a 2 ?_
      refine At.c (laws_markRecS_spec  ((sends aR aM).2.1) (raftEnd ((sends aR aM).1) 1) (by omega) (by omega) (by omega)) Tryz.call48 true [(1924, 0)] [] [] trivial ?_
      refine At.a 1 ?_
      refine At.done rfl ?_
      refine AW.r ?_
      refine At.a 2 ?_
      refine At.c (laws_markOutS_spec  ((sends aR aM).2.2) (ends nxR ((sends aR aM).2.1) (raftEnd ((sends aR aM).1) 1)) (by omega) (by have := hfew.1; omega) (by omega) (fun o ho => by have := hfew.2 o ho; omega)) Tryz.call49 true [(1925, 0)] [] [] trivial ?_
      refine At.a 1 ?_
      refine At.done rfl ?_
      refine AW.r ?_
      refine At.a 1 ?_
      refine At.done rfl ?_
      refine AW.r ?_
      refine At.a 2 ?_
      refine At.c (laws_heldRaft_spec  (⟨((sends aR aM).1).id, ((sends aR aM).1).of_, ((sends aR aM).1).role, ((sends aR aM).1).commit, ⟨((sends aR aM).1).hard.term, ((sends aR aM).1).hard.vote, (raftMark ((sends aR aM).1) 1).hard.log⟩, (raftMark ((sends aR aM).1) 1).yes, (raftMark ((sends aR aM).1) 1).next, (raftMark ((sends aR aM).1) 1).match_⟩ : Raft) 1 (raftMark_small hzp 1) (by omega)) Tryz.call50 false [] [] [(1920, 6, (((raftMark ((sends aR aM).1) 1).hard.log).map encEnt)), (1921, 1, (((raftMark ((sends aR aM).1) 1).yes).map encI)), (1922, 1, (((raftMark ((sends aR aM).1) 1).next).map encI)), (1923, 1, (((raftMark ((sends aR aM).1) 1).match_).map encI))] ⟨rfl, ⟨45, (((raftMark ((sends aR aM).1) 1).hard.log).map encEnt), by kernel_rfl, FrzIs.same (allP_encEnt _)⟩, rfl, ⟨3, (((raftMark ((sends aR aM).1) 1).yes).map encI), by kernel_rfl, FrzIs.same (allP_encI _)⟩, rfl, ⟨3, (((raftMark ((sends aR aM).1) 1).next).map encI), by kernel_rfl, FrzIs.same (allP_encI _)⟩, rfl, ⟨3, (((raftMark ((sends aR aM).1) 1).match_).map encI), by kernel_rfl, FrzIs.same (allP_encI _)⟩, trivial⟩ ?_
      refine At.say 113 (.int .i64 (heldRaft (⟨((sends aR aM).1).id, ((sends aR aM).1).of_, ((sends aR aM).1).role, ((sends aR aM).1).commit, ⟨((sends aR aM).1).hard.term, ((sends aR aM).1).hard.vote, (raftMark ((sends aR aM).1) 1).hard.log⟩, (raftMark ((sends aR aM).1) 1).yes, (raftMark ((sends aR aM).1) 1).next, (raftMark ((sends aR aM).1) 1).match_⟩ : Raft) 1)) (.int .i64 (raftEnd ((sends aR aM).1) 1)) (by kernel_rfl) (congrArg (V.int .i64) (held_raft ((sends aR aM).1) 1 (by omega))) ?_
      refine At.a 1 ?_
      refine At.done rfl ?_
      refine AW.seq ?_
      refine AW.r ?_
      refine At.a 2 ?_
      refine At.done rfl ?_
      refine AW.condF (decide ((raftEnd ((sends aR aM).1) 1) < 0)) (by kernel_rfl) (decide_eq_false (by have := hke; omega)) ?_
      refine AW.skip ?_
      refine AW.r ?_
      refine At.a 2 ?_
      refine At.c (laws_heldRecS_spec  (marks markR nxR ((sends aR aM).2.1) (raftEnd ((sends aR aM).1) 1)) (raftEnd ((sends aR aM).1) 1) (by rw [marks_len]; omega) (by rw [marks_len]; omega)) Tryz.call51 false [] [] [(1924, 10, ((marks markR nxR ((sends aR aM).2.1) (raftEnd ((sends aR aM).1) 1)).map encRec))] ⟨rfl, ⟨47, ((marks markR nxR ((sends aR aM).2.1) (raftEnd ((sends aR aM).1) 1)).map encRec), by kernel_rfl, FrzIs.same (allP_encRec _)⟩, trivial⟩ ?_
      refine At.say 118 (.int .i64 (held okR nxR (marks markR nxR ((sends aR aM).2.1) (raftEnd ((sends aR aM).1) 1)) (raftEnd ((sends aR aM).1) 1))) (.int .i64 (ends nxR ((sends aR aM).2.1) (raftEnd ((sends aR aM).1) 1))) (by kernel_rfl) (congrArg (V.int .i64) (held_recs _ _ (by omega))) ?_
      refine At.a 1 ?_
      refine At.done rfl ?_
      refine AW.seq ?_
      refine AW.r ?_
      refine At.a 2 ?_
      refine At.done rfl ?_
      refine AW.condF (decide ((ends nxR ((sends aR aM).2.1) (raftEnd ((sends aR aM).1) 1)) < 0)) (by kernel_rfl) (decide_eq_false (by omega)) ?_
      refine AW.skip ?_
      refine AW.r ?_
      refine At.a 2 ?_
      refine At.c (laws_heldOutS_spec  (marks markO nxO ((sends aR aM).2.2) (ends nxR ((sends aR aM).2.1) (raftEnd ((sends aR aM).1) 1))) (ends nxR ((sends aR aM).2.1) (raftEnd ((sends aR aM).1) 1)) hmf (by omega)) Tryz.call52 false [] [] [(1925, 17, ((marks markO nxO ((sends aR aM).2.2) (ends nxR ((sends aR aM).2.1) (raftEnd ((sends aR aM).1) 1))).map encOutV))] ⟨rfl, ⟨51, ((marks markO nxO ((sends aR aM).2.2) (ends nxR ((sends aR aM).2.1) (raftEnd ((sends aR aM).1) 1))).map encOut), by kernel_rfl, frzOut _⟩, trivial⟩ ?_
      refine At.say 123 (.int .i64 (heldO (marks markO nxO ((sends aR aM).2.2) (ends nxR ((sends aR aM).2.1) (raftEnd ((sends aR aM).1) 1))) (ends nxR ((sends aR aM).2.1) (raftEnd ((sends aR aM).1) 1)))) (.int .i64 (ends nxO ((sends aR aM).2.2) (ends nxR ((sends aR aM).2.1) (raftEnd ((sends aR aM).1) 1)))) (by kernel_rfl) (congrArg (V.int .i64) (held_outs _ _ (by omega))) ?_
      refine At.a 1 ?_
      refine At.done rfl ?_
      refine AW.seq ?_
      refine AW.r ?_
      refine At.a 2 ?_
      refine At.done rfl ?_
      refine AW.condF (decide ((ends nxO ((sends aR aM).2.2) (ends nxR ((sends aR aM).2.1) (raftEnd ((sends aR aM).1) 1))) < 0)) (by kernel_rfl) (decide_eq_false (by omega)) ?_
      refine AW.skip ?_
      refine AW.seq ?_
      refine AW.r ?_
      refine At.a 3 ?_
      refine At.done rfl ?_
      refine AW.condF ((ends nxO ((sends aR aM).2.2) (ends nxR ((sends aR aM).2.1) (raftEnd ((sends aR aM).1) 1))) != (ends nxO ((sends aR aM).2.2) (ends nxR ((sends aR aM).2.1) (raftEnd ((sends aR aM).1) 1)))) (by kernel_rfl) (by simp) ?_
      refine AW.skip ?_
      refine AW.seq ?_
      refine AW.regionD Tryz_mix (At.start ?_)
      refine At.a 1 ?_
      refine At.c (laws_toRaft_spec  aR hz) Tryz.call40 true [] [(3620, 0), (3621, 1), (3622, 2), (3623, 3)] [] trivial ?_
      refine At.a 1 ?_
      refine At.c (laws_toMsg_spec  aM hm) Tryz.call41 true [] [(3660, 0)] [] trivial ?_
      refine At.c (impl_OnSend_spec  aR aM hz hm) Tryz.call27 false [] [(3680, 0), (3681, 1), (3682, 2), (3683, 3), (3684, 4), (3685, 5)] [(3620, 6, (aR.hard.log.map encEnt)), (3621, 1, (aR.yes.map encI)), (3622, 1, (aR.next.map encI)), (3623, 1, (aR.match_.map encI)), (3660, 6, (aM.entries.map encEnt))] ⟨rfl, ⟨45, (aR.hard.log.map encEnt), by kernel_rfl, FrzIs.same (allP_encEnt _)⟩, rfl, ⟨3, (aR.yes.map encI), by kernel_rfl, FrzIs.same (allP_encI _)⟩, rfl, ⟨3, (aR.next.map encI), by kernel_rfl, FrzIs.same (allP_encI _)⟩, rfl, ⟨3, (aR.match_.map encI), by kernel_rfl, FrzIs.same (allP_encI _)⟩, rfl, ⟨45, (aM.entries.map encEnt), by kernel_rfl, FrzIs.same (allP_encEnt _)⟩, trivial⟩ ?_
      refine At.a 8 ?_
      refine At.done rfl ⟨by kernel_rfl, ?_⟩
      refine AW.seq ?_
      refine AW.r ?_
      refine At.a 2 ?_
      refine At.c (laws_eqRaft_spec  ((sends aR aM).1) ((sends aR aM).1) (by exact hzp) (by exact hzp)) Tryz.call42 false [] [] [(3680, 6, ((((sends aR aM).1).hard.log).map encEnt)), (3681, 1, ((((sends aR aM).1).yes).map encI)), (3682, 1, ((((sends aR aM).1).next).map encI)), (3683, 1, ((((sends aR aM).1).match_).map encI)), (1700, 6, ((((sends aR aM).1).hard.log).map encEnt)), (1701, 1, ((((sends aR aM).1).yes).map encI)), (1702, 1, ((((sends aR aM).1).next).map encI)), (1703, 1, ((((sends aR aM).1).match_).map encI))] ⟨rfl, ⟨45, ((((sends aR aM).1).hard.log).map encEnt), by kernel_rfl, FrzIs.same (allP_encEnt _)⟩, rfl, ⟨3, ((((sends aR aM).1).yes).map encI), by kernel_rfl, FrzIs.same (allP_encI _)⟩, rfl, ⟨3, ((((sends aR aM).1).next).map encI), by kernel_rfl, FrzIs.same (allP_encI _)⟩, rfl, ⟨3, ((((sends aR aM).1).match_).map encI), by kernel_rfl, FrzIs.same (allP_encI _)⟩, rfl, ⟨45, ((((sends aR aM).1).hard.log).map encEnt), by kernel_rfl, FrzIs.same (allP_encEnt _)⟩, rfl, ⟨3, ((((sends aR aM).1).yes).map encI), by kernel_rfl, FrzIs.same (allP_encI _)⟩, rfl, ⟨3, ((((sends aR aM).1).next).map encI), by kernel_rfl, FrzIs.same (allP_encI _)⟩, rfl, ⟨3, ((((sends aR aM).1).match_).map encI), by kernel_rfl, FrzIs.same (allP_encI _)⟩, trivial⟩ ?_
      refine At.a 2 ?_
      refine At.sB 142 (!(raftEq ((sends aR aM).1) ((sends aR aM).1))) false (sayB (by rw [show (raftEq ((sends aR aM).1) ((sends aR aM).1)) = true from (raftEq_refl _)]; rfl)) ?_
      refine At.a 2 ?_
      refine At.c (laws_eqRecS_spec  ((sends aR aM).2.1) ((sends aR aM).2.1) (by omega) (by omega)) Tryz.call43 false [] [] [(3684, 10, (((sends aR aM).2.1).map encRec)), (1704, 10, (((sends aR aM).2.1).map encRec))] ⟨rfl, ⟨47, (((sends aR aM).2.1).map encRec), by kernel_rfl, FrzIs.same (allP_encRec _)⟩, rfl, ⟨47, (((sends aR aM).2.1).map encRec), by kernel_rfl, FrzIs.same (allP_encRec _)⟩, trivial⟩ ?_
      refine At.a 3 ?_
      refine At.sB 148 (!(listEq recEq ((sends aR aM).2.1) ((sends aR aM).2.1))) false (sayB (by rw [show (listEq recEq ((sends aR aM).2.1) ((sends aR aM).2.1)) = true from (listEq_refl recEq_refl _)]; rfl)) ?_
      refine At.a 2 ?_
      refine At.c (laws_eqOutS_spec  ((sends aR aM).2.2) ((sends aR aM).2.2) (by have := hfew.1; omega) (by have := hfew.1; omega) (fun o ho => by have := hfew.2 o ho; omega) (fun o ho => by have := hfew.2 o ho; omega)) Tryz.call44 false [] [] [(3685, 17, (((sends aR aM).2.2).map encOutV)), (1705, 17, (((sends aR aM).2.2).map encOutV))] ⟨rfl, ⟨51, (((sends aR aM).2.2).map encOut), by kernel_rfl, frzOut _⟩, rfl, ⟨51, (((sends aR aM).2.2).map encOut), by kernel_rfl, frzOut _⟩, trivial⟩ ?_
      refine At.a 2 ?_
      refine At.done rfl ?_
      refine AW.condF (!(listEq outEq ((sends aR aM).2.2) ((sends aR aM).2.2))) (by kernel_rfl) (by rw [show (listEq outEq ((sends aR aM).2.2) ((sends aR aM).2.2)) = true from (listEq_refl outEq_refl _)]; rfl) ?_
      refine AW.skip ?_
      refine AW.r ?_
      refine At.a 1 ?_
      refine At.done rfl ?_
      refine AW.r ?_
      refine At.a 2 ?_
      refine At.c (laws_heldRaft_spec  (⟨((sends aR aM).1).id, ((sends aR aM).1).of_, ((sends aR aM).1).role, ((sends aR aM).1).commit, ⟨((sends aR aM).1).hard.term, ((sends aR aM).1).hard.vote, (raftMark ((sends aR aM).1) 1).hard.log⟩, (raftMark ((sends aR aM).1) 1).yes, (raftMark ((sends aR aM).1) 1).next, (raftMark ((sends aR aM).1) 1).match_⟩ : Raft) 1 (raftMark_small hzp 1) (by omega)) Tryz.call50 false [] [] [(1920, 6, (((raftMark ((sends aR aM).1) 1).hard.log).map encEnt)), (1921, 1, (((raftMark ((sends aR aM).1) 1).yes).map encI)), (1922, 1, (((raftMark ((sends aR aM).1) 1).next).map encI)), (1923, 1, (((raftMark ((sends aR aM).1) 1).match_).map encI))] ⟨rfl, ⟨45, (((raftMark ((sends aR aM).1) 1).hard.log).map encEnt), by kernel_rfl, FrzIs.same (allP_encEnt _)⟩, rfl, ⟨3, (((raftMark ((sends aR aM).1) 1).yes).map encI), by kernel_rfl, FrzIs.same (allP_encI _)⟩, rfl, ⟨3, (((raftMark ((sends aR aM).1) 1).next).map encI), by kernel_rfl, FrzIs.same (allP_encI _)⟩, rfl, ⟨3, (((raftMark ((sends aR aM).1) 1).match_).map encI), by kernel_rfl, FrzIs.same (allP_encI _)⟩, trivial⟩ ?_
      refine At.say 156 (.int .i64 (heldRaft (⟨((sends aR aM).1).id, ((sends aR aM).1).of_, ((sends aR aM).1).role, ((sends aR aM).1).commit, ⟨((sends aR aM).1).hard.term, ((sends aR aM).1).hard.vote, (raftMark ((sends aR aM).1) 1).hard.log⟩, (raftMark ((sends aR aM).1) 1).yes, (raftMark ((sends aR aM).1) 1).next, (raftMark ((sends aR aM).1) 1).match_⟩ : Raft) 1)) (.int .i64 (raftEnd ((sends aR aM).1) 1)) (by kernel_rfl) (congrArg (V.int .i64) (held_raft ((sends aR aM).1) 1 (by omega))) ?_
      refine At.a 1 ?_
      refine At.done rfl ?_
      refine AW.seq ?_
      refine AW.r ?_
      refine At.a 2 ?_
      refine At.done rfl ?_
      refine AW.condF (decide ((raftEnd ((sends aR aM).1) 1) < 0)) (by kernel_rfl) (decide_eq_false (by have := hke; omega)) ?_
      refine AW.skip ?_
      refine AW.r ?_
      refine At.a 2 ?_
      refine At.c (laws_heldRecS_spec  (marks markR nxR ((sends aR aM).2.1) (raftEnd ((sends aR aM).1) 1)) (raftEnd ((sends aR aM).1) 1) (by rw [marks_len]; omega) (by rw [marks_len]; omega)) Tryz.call51 false [] [] [(1924, 10, ((marks markR nxR ((sends aR aM).2.1) (raftEnd ((sends aR aM).1) 1)).map encRec))] ⟨rfl, ⟨47, ((marks markR nxR ((sends aR aM).2.1) (raftEnd ((sends aR aM).1) 1)).map encRec), by kernel_rfl, FrzIs.same (allP_encRec _)⟩, trivial⟩ ?_
      refine At.say 161 (.int .i64 (held okR nxR (marks markR nxR ((sends aR aM).2.1) (raftEnd ((sends aR aM).1) 1)) (raftEnd ((sends aR aM).1) 1))) (.int .i64 (ends nxR ((sends aR aM).2.1) (raftEnd ((sends aR aM).1) 1))) (by kernel_rfl) (congrArg (V.int .i64) (held_recs _ _ (by omega))) ?_
      refine At.a 1 ?_
      refine At.done rfl ?_
      refine AW.seq ?_
      refine AW.r ?_
      refine At.a 2 ?_
      refine At.done rfl ?_
      refine AW.condF (decide ((ends nxR ((sends aR aM).2.1) (raftEnd ((sends aR aM).1) 1)) < 0)) (by kernel_rfl) (decide_eq_false (by omega)) ?_
      refine AW.skip ?_
      refine AW.r ?_
      refine At.a 2 ?_
      refine At.c (laws_heldOutS_spec  (marks markO nxO ((sends aR aM).2.2) (ends nxR ((sends aR aM).2.1) (raftEnd ((sends aR aM).1) 1))) (ends nxR ((sends aR aM).2.1) (raftEnd ((sends aR aM).1) 1)) hmf (by omega)) Tryz.call52 false [] [] [(1925, 17, ((marks markO nxO ((sends aR aM).2.2) (ends nxR ((sends aR aM).2.1) (raftEnd ((sends aR aM).1) 1))).map encOutV))] ⟨rfl, ⟨51, ((marks markO nxO ((sends aR aM).2.2) (ends nxR ((sends aR aM).2.1) (raftEnd ((sends aR aM).1) 1))).map encOut), by kernel_rfl, frzOut _⟩, trivial⟩ ?_
      refine At.say 166 (.int .i64 (heldO (marks markO nxO ((sends aR aM).2.2) (ends nxR ((sends aR aM).2.1) (raftEnd ((sends aR aM).1) 1))) (ends nxR ((sends aR aM).2.1) (raftEnd ((sends aR aM).1) 1)))) (.int .i64 (ends nxO ((sends aR aM).2.2) (ends nxR ((sends aR aM).2.1) (raftEnd ((sends aR aM).1) 1)))) (by kernel_rfl) (congrArg (V.int .i64) (held_outs _ _ (by omega))) ?_
      refine At.a 1 ?_
      refine At.done rfl ?_
      refine AW.seq ?_
      refine AW.r ?_
      refine At.a 2 ?_
      refine At.done rfl ?_
      refine AW.condF (decide ((ends nxO ((sends aR aM).2.2) (ends nxR ((sends aR aM).2.1) (raftEnd ((sends aR aM).1) 1))) < 0)) (by kernel_rfl) (decide_eq_false (by omega)) ?_
      refine AW.skip ?_
      refine AW.seq ?_
      refine AW.r ?_
      refine At.a 3 ?_
      refine At.done rfl ?_
      refine AW.condF ((ends nxO ((sends aR aM).2.2) (ends nxR ((sends aR aM).2.1) (raftEnd ((sends aR aM).1) 1))) != (ends nxO ((sends aR aM).2.2) (ends nxR ((sends aR aM).2.1) (raftEnd ((sends aR aM).1) 1)))) (by kernel_rfl) (by simp) ?_
      refine AW.skip ?_
      refine AW.r ?_
      refine At.a 1 ?_
      refine At.done rfl ?_
      refine AW.ret ?_
      refine ⟨_, Sub.refl _ _, ?_⟩
      exact KF.m [] [.bool true]
end Go.Proofs.YtlmadhahghiedaaGreat
