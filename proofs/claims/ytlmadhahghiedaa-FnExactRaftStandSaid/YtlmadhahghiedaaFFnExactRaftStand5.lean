/- The contracts of the functions that FnExactRaftStand reaches (each: what it answers, said over values), printed by a program of this session (wip/sy/g/gen.py). -/
import Derived.Test.YtlmadhahghiedaaFFnExactRaftStand4
set_option linter.unusedVariables false
set_option linter.unusedSimpArgs false
namespace Go.Proofs.Ytlmadhahghiedaa
open Go Go.Sy Go.Proofs
set_option maxRecDepth 100000 in
set_option maxHeartbeats 4000000 in
theorem laws_heldRecS_spec  (a : List Rec) (k : Int) (ha : a.length ≤ 1048576) (hk : 0 ≤ k ∧ k + 20 * a.length ≤ 4611686018427387904) : FnSpec Try.prog 23 [.sl false 10 (a.map encRec), .int .i64 k] [] (.int .i64 (held okR nxR a k)) [] := by
  refine FnSpec.of 115 Try.func23 rfl Try.ntmps23 (by simp) (AW.weakK ?_)
  refine AW.r ?_
  refine At.a 1 ?_
  refine At.done rfl ?_
  refine AW.seq ?_
  refine AW.r ?_
  refine At.a 1 ?_
  refine At.done rfl ?_
  refine AW.block ?_
  refine AW.loopW (fun (x : Nat × Int) => match x with | (i, kk) => Go.Sy.mk [.sl false 10 (a.map encRec), .int .i64 kk, .un, .un, .un, .int .i64 (i : Int)] []) (fun (x : Nat × Int) => match x with | (i, kk) => i ≤ a.length ∧ 0 ≤ kk ∧ kk + 20 * ((a.length : Int) - i) ≤ 4611686018427387904 ∧ held okR nxR a k = held okR nxR (a.drop i) kk) (fun (x : Nat × Int) => match x with | (i, kk) => a.length - i) (0, k) ⟨by omega, by omega, by omega, by rw [List.drop_zero]⟩ (Sub.o [] [true, true, false, false, false, true]) ?_
  rintro ⟨i, kk⟩ ⟨hi, hkk, hkb, hR⟩
  refine AW.seq ?_
  refine AW.r ?_
  refine At.a 3 ?_
  refine At.sL 8 encRec a ?_
  refine At.a 1 ?_
  refine At.done rfl ?_
  refine AW.cD ((i : Int) < (a.length : Int)) (fun h1 => ?_) (fun h1 => ?_)
  · skip
    refine AW.skip ?_
    refine AW.seq ?_
    refine AW.block ?_
    refine AW.seq ?_
    refine AW.r ?_
    refine At.a 2 ?_
    refine At.iSl 45 14 (.tmp 12) (.tmp 13) false 10 (a.map encRec) .i64 (i : Int) 93 (by omega) (by simp only [List.length_map, List.length_append, List.length_take, List.length_drop, List.length_replicate, List.length_set, List.length_cons, List.length_nil]; omega) ?_
    refine At.a 1 ?_
    refine Exists.elim (show ∃ e, a[i]? = some e from ⟨_, List.getElem?_eq_getElem (by omega)⟩) fun e1 he1 => ?_
    refine At.lVp 3 16 (.tmp 15) false 10 (a.map encRec) i 0 false 1 (encRec e1) (.int .i64 e1.kind) (mapGet he1) ?_
    refine At.a 2 ?_
    refine At.done rfl ?_
    refine AW.cU e1.kind kk (fun h2 => ?_) (fun h2 => ?_)
    · skip
      refine AW.r ?_
      refine At.a 1 ?_
      refine At.done rfl ?_
      refine AW.ret ?_
      refine ⟨_, Sub.refl _ _, ?_⟩
      refine KF.conv (fun w => .int .i64 w) (fun w => []) (show (-1) = (held okR nxR a k) from by rw [hR, dropCons he1, held, if_neg (by simp [okR, h1, h2])]) ?_
      exact KF.m [] [.int .i64 (-1)]
    · skip
      refine AW.skip ?_
      refine AW.r ?_
      refine At.a 2 ?_
      refine At.sI 20 (kk + 1) (by omega) ?_
      refine At.a 1 ?_
      refine At.done rfl ?_
      refine AW.seq ?_
      refine AW.r ?_
      refine At.a 2 ?_
      refine At.iSl 45 23 (.tmp 21) (.tmp 22) false 10 (a.map encRec) .i64 (i : Int) 93 (by omega) (by simp only [List.length_map, List.length_append, List.length_take, List.length_drop, List.length_replicate, List.length_set, List.length_cons, List.length_nil]; omega) ?_
      refine At.a 1 ?_
      refine At.lVp 3 25 (.tmp 24) false 10 (a.map encRec) i 1 false 1 (encRec e1) (.int .i64 e1.term) (mapGet he1) ?_
      refine At.a 2 ?_
      refine At.done rfl ?_
      refine AW.cU e1.term (kk + 1) (fun h3 => ?_) (fun h3 => ?_)
      · skip
        refine AW.r ?_
        refine At.a 1 ?_
        refine At.done rfl ?_
        refine AW.ret ?_
        refine ⟨_, Sub.refl _ _, ?_⟩
        refine KF.conv (fun w => .int .i64 w) (fun w => []) (show (-1) = (held okR nxR a k) from by rw [hR, dropCons he1, held, if_neg (by simp [okR, h1, h2, h3])]) ?_
        exact KF.m [] [.int .i64 (-1)]
      · skip
        refine AW.skip ?_
        refine AW.r ?_
        refine At.a 2 ?_
        refine At.sJ 29 ((kk + 1) + 1) (kk + 2) (by omega) (by omega) ?_
        refine At.a 1 ?_
        refine At.done rfl ?_
        refine AW.seq ?_
        refine AW.r ?_
        refine At.a 2 ?_
        refine At.iSl 45 32 (.tmp 30) (.tmp 31) false 10 (a.map encRec) .i64 (i : Int) 93 (by omega) (by simp only [List.length_map, List.length_append, List.length_take, List.length_drop, List.length_replicate, List.length_set, List.length_cons, List.length_nil]; omega) ?_
        refine At.a 1 ?_
        refine At.lVp 3 34 (.tmp 33) false 10 (a.map encRec) i 2 false 1 (encRec e1) (.int .i64 e1.vote) (mapGet he1) ?_
        refine At.a 2 ?_
        refine At.done rfl ?_
        refine AW.cU e1.vote (kk + 2) (fun h4 => ?_) (fun h4 => ?_)
        · skip
          refine AW.r ?_
          refine At.a 1 ?_
          refine At.done rfl ?_
          refine AW.ret ?_
          refine ⟨_, Sub.refl _ _, ?_⟩
          refine KF.conv (fun w => .int .i64 w) (fun w => []) (show (-1) = (held okR nxR a k) from by rw [hR, dropCons he1, held, if_neg (by simp [okR, h1, h2, h3, h4])]) ?_
          exact KF.m [] [.int .i64 (-1)]
        · skip
          refine AW.skip ?_
          refine AW.r ?_
          refine At.a 2 ?_
          refine At.sJ 38 ((kk + 2) + 1) (kk + 3) (by omega) (by omega) ?_
          refine At.a 1 ?_
          refine At.done rfl ?_
          refine AW.seq ?_
          refine AW.r ?_
          refine At.a 2 ?_
          refine At.iSl 45 41 (.tmp 39) (.tmp 40) false 10 (a.map encRec) .i64 (i : Int) 93 (by omega) (by simp only [List.length_map, List.length_append, List.length_take, List.length_drop, List.length_replicate, List.length_set, List.length_cons, List.length_nil]; omega) ?_
          refine At.a 1 ?_
          refine At.lVp 3 43 (.tmp 42) false 10 (a.map encRec) i 3 false 1 (encRec e1) (.int .i64 e1.at_) (mapGet he1) ?_
          refine At.a 2 ?_
          refine At.done rfl ?_
          refine AW.cU e1.at_ (kk + 3) (fun h5 => ?_) (fun h5 => ?_)
          · skip
            refine AW.r ?_
            refine At.a 1 ?_
            refine At.done rfl ?_
            refine AW.ret ?_
            refine ⟨_, Sub.refl _ _, ?_⟩
            refine KF.conv (fun w => .int .i64 w) (fun w => []) (show (-1) = (held okR nxR a k) from by rw [hR, dropCons he1, held, if_neg (by simp [okR, h1, h2, h3, h4, h5])]) ?_
            exact KF.m [] [.int .i64 (-1)]
          · skip
            refine AW.skip ?_
            refine AW.r ?_
            refine At.a 2 ?_
            refine At.sJ 47 ((kk + 3) + 1) (kk + 4) (by omega) (by omega) ?_
            refine At.a 1 ?_
            refine At.done rfl ?_
            refine AW.seq ?_
            refine AW.r ?_
            refine At.a 2 ?_
            refine At.iSl 45 50 (.tmp 48) (.tmp 49) false 10 (a.map encRec) .i64 (i : Int) 93 (by omega) (by simp only [List.length_map, List.length_append, List.length_take, List.length_drop, List.length_replicate, List.length_set, List.length_cons, List.length_nil]; omega) ?_
            refine At.a 2 ?_
            refine At.lVp 3 53 (.tmp 52) false 10 (a.map encRec) i 4 false 1 (encRec e1) (.int .i64 e1.entry.term) (mapGet he1) ?_
            refine At.a 2 ?_
            refine At.done rfl ?_
            refine AW.cU e1.entry.term (kk + 4) (fun h6 => ?_) (fun h6 => ?_)
            · skip
              refine AW.r ?_
              refine At.a 1 ?_
              refine At.done rfl ?_
              refine AW.ret ?_
              refine ⟨_, Sub.refl _ _, ?_⟩
              refine KF.conv (fun w => .int .i64 w) (fun w => []) (show (-1) = (held okR nxR a k) from by rw [hR, dropCons he1, held, if_neg (by simp [okR, h1, h2, h3, h4, h5, h6])]) ?_
              exact KF.m [] [.int .i64 (-1)]
            · skip
              refine AW.skip ?_
              refine AW.r ?_
              refine At.a 2 ?_
              refine At.sJ 57 ((kk + 4) + 1) (kk + 5) (by omega) (by omega) ?_
              refine At.a 1 ?_
              refine At.done rfl ?_
              refine AW.seq ?_
              refine AW.r ?_
              refine At.a 2 ?_
              refine At.iSl 45 60 (.tmp 58) (.tmp 59) false 10 (a.map encRec) .i64 (i : Int) 93 (by omega) (by simp only [List.length_map, List.length_append, List.length_take, List.length_drop, List.length_replicate, List.length_set, List.length_cons, List.length_nil]; omega) ?_
              refine At.a 3 ?_
              refine At.lVp 3 64 (.tmp 63) false 10 (a.map encRec) i 5 false 1 (encRec e1) (.int .i64 e1.entry.cmd.kind) (mapGet he1) ?_
              refine At.a 2 ?_
              refine At.done rfl ?_
              refine AW.cU e1.entry.cmd.kind (kk + 5) (fun h7 => ?_) (fun h7 => ?_)
              · skip
                refine AW.r ?_
                refine At.a 1 ?_
                refine At.done rfl ?_
                refine AW.ret ?_
                refine ⟨_, Sub.refl _ _, ?_⟩
                refine KF.conv (fun w => .int .i64 w) (fun w => []) (show (-1) = (held okR nxR a k) from by rw [hR, dropCons he1, held, if_neg (by simp [okR, h1, h2, h3, h4, h5, h6, h7])]) ?_
                exact KF.m [] [.int .i64 (-1)]
              · skip
                refine AW.skip ?_
                refine AW.r ?_
                refine At.a 2 ?_
                refine At.sJ 68 ((kk + 5) + 1) (kk + 6) (by omega) (by omega) ?_
                refine At.a 1 ?_
                refine At.done rfl ?_
                refine AW.seq ?_
                refine AW.r ?_
                refine At.a 2 ?_
                refine At.iSl 45 71 (.tmp 69) (.tmp 70) false 10 (a.map encRec) .i64 (i : Int) 93 (by omega) (by simp only [List.length_map, List.length_append, List.length_take, List.length_drop, List.length_replicate, List.length_set, List.length_cons, List.length_nil]; omega) ?_
                refine At.a 3 ?_
                refine At.lVp 3 75 (.tmp 74) false 10 (a.map encRec) i 6 false 1 (encRec e1) (.int .i64 e1.entry.cmd.release) (mapGet he1) ?_
                refine At.a 2 ?_
                refine At.done rfl ?_
                refine AW.cU e1.entry.cmd.release (kk + 6) (fun h8 => ?_) (fun h8 => ?_)
                · skip
                  refine AW.r ?_
                  refine At.a 1 ?_
                  refine At.done rfl ?_
                  refine AW.ret ?_
                  refine ⟨_, Sub.refl _ _, ?_⟩
                  refine KF.conv (fun w => .int .i64 w) (fun w => []) (show (-1) = (held okR nxR a k) from by rw [hR, dropCons he1, held, if_neg (by simp [okR, h1, h2, h3, h4, h5, h6, h7, h8])]) ?_
                  exact KF.m [] [.int .i64 (-1)]
                · skip
                  refine AW.skip ?_
                  refine AW.r ?_
                  refine At.a 2 ?_
                  refine At.sJ 79 ((kk + 6) + 1) (kk + 7) (by omega) (by omega) ?_
                  refine At.a 1 ?_
                  refine At.done rfl ?_
                  refine AW.seq ?_
                  refine AW.r ?_
                  refine At.a 2 ?_
                  refine At.iSl 45 82 (.tmp 80) (.tmp 81) false 10 (a.map encRec) .i64 (i : Int) 93 (by omega) (by simp only [List.length_map, List.length_append, List.length_take, List.length_drop, List.length_replicate, List.length_set, List.length_cons, List.length_nil]; omega) ?_
                  refine At.a 3 ?_
                  refine At.lVp 3 86 (.tmp 85) false 10 (a.map encRec) i 7 false 1 (encRec e1) (.int .i64 e1.entry.cmd.node) (mapGet he1) ?_
                  refine At.a 2 ?_
                  refine At.done rfl ?_
                  refine AW.cU e1.entry.cmd.node (kk + 7) (fun h9 => ?_) (fun h9 => ?_)
                  · skip
                    refine AW.r ?_
                    refine At.a 1 ?_
                    refine At.done rfl ?_
                    refine AW.ret ?_
                    refine ⟨_, Sub.refl _ _, ?_⟩
                    refine KF.conv (fun w => .int .i64 w) (fun w => []) (show (-1) = (held okR nxR a k) from by rw [hR, dropCons he1, held, if_neg (by simp [okR, h1, h2, h3, h4, h5, h6, h7, h8, h9])]) ?_
                    exact KF.m [] [.int .i64 (-1)]
                  · skip
                    refine AW.skip ?_
                    refine AW.r ?_
                    refine At.a 2 ?_
                    refine At.sJ 90 ((kk + 7) + 1) (kk + 8) (by omega) (by omega) ?_
                    refine At.a 1 ?_
                    refine At.done rfl ?_
                    refine AW.seq ?_
                    refine AW.r ?_
                    refine At.a 2 ?_
                    refine At.iSl 45 93 (.tmp 91) (.tmp 92) false 10 (a.map encRec) .i64 (i : Int) 93 (by omega) (by simp only [List.length_map, List.length_append, List.length_take, List.length_drop, List.length_replicate, List.length_set, List.length_cons, List.length_nil]; omega) ?_
                    refine At.a 3 ?_
                    refine At.lVp 3 97 (.tmp 96) false 10 (a.map encRec) i 8 false 1 (encRec e1) (.int .i64 e1.entry.cmd.size) (mapGet he1) ?_
                    refine At.a 2 ?_
                    refine At.done rfl ?_
                    refine AW.cU e1.entry.cmd.size (kk + 8) (fun h10 => ?_) (fun h10 => ?_)
                    · skip
                      refine AW.r ?_
                      refine At.a 1 ?_
                      refine At.done rfl ?_
                      refine AW.ret ?_
                      refine ⟨_, Sub.refl _ _, ?_⟩
                      refine KF.conv (fun w => .int .i64 w) (fun w => []) (show (-1) = (held okR nxR a k) from by rw [hR, dropCons he1, held, if_neg (by simp [okR, h1, h2, h3, h4, h5, h6, h7, h8, h9, h10])]) ?_
                      exact KF.m [] [.int .i64 (-1)]
                    · skip
                      refine AW.skip ?_
                      refine AW.r ?_
                      refine At.a 2 ?_
                      refine At.sJ 101 ((kk + 8) + 1) (kk + 9) (by omega) (by omega) ?_
                      refine At.a 1 ?_
                      refine At.done rfl ?_
                      refine AW.seq ?_
                      refine AW.seq ?_
                      refine AW.regionD Try_mix (At.start ?_)
                      refine At.a 2 ?_
                      refine At.iSl 45 104 (.tmp 102) (.tmp 103) false 10 (a.map encRec) .i64 (i : Int) 93 (by omega) (by simp only [List.length_map, List.length_append, List.length_take, List.length_drop, List.length_replicate, List.length_set, List.length_cons, List.length_nil]; omega) ?_
                      refine At.a 3 ?_
                      refine At.lVp 9 108 (.tmp 107) false 10 (a.map encRec) i 9 false 1 (encRec e1) (.str e1.entry.cmd.digest) (mapGet he1) ?_
                      refine At.a 1 ?_
                      refine At.c (laws_markText_spec  (kk + 9) (by omega)) Try.call48 true [] [] [] trivial ?_
                      refine At.a 1 ?_
                      refine At.done rfl ⟨by kernel_rfl, ?_⟩
                      refine AW.cNE (e1.entry.cmd.digest.toList) ((markT (kk + 9)).toList) (fun h11 => ?_) (fun h11 => ?_)
                      · skip
                        refine AW.r ?_
                        refine At.a 1 ?_
                        refine At.done rfl ?_
                        refine AW.ret ?_
                        refine ⟨_, Sub.refl _ _, ?_⟩
                        refine KF.conv (fun w => .int .i64 w) (fun w => []) (show (-1) = (held okR nxR a k) from by rw [hR, dropCons he1, held, if_neg (by simp [okR, h1, h2, h3, h4, h5, h6, h7, h8, h9, h10, h11])]) ?_
                        exact KF.m [] [.int .i64 (-1)]
                      · skip
                        refine AW.skip ?_
                        refine AW.region (At.start ?_)
                        refine At.a 2 ?_
                        refine At.sJ 113 ((kk + 9) + 1) (kk + 10) (by omega) (by omega) ?_
                        refine At.a 1 ?_
                        refine At.done rfl ?_
                        refine AW.region (At.start ?_)
                        refine At.a 2 ?_
                        refine At.sI 11 ((i : Int) + 1) (by omega) ?_
                        refine At.a 1 ?_
                        refine At.done rfl ?_
                        exact ⟨(i + 1, (kk + 10)), ⟨by omega, by omega, by omega, by rw [hR, dropCons he1, held, if_pos (by simp [okR, h1, h2, h3, h4, h5, h6, h7, h8, h9, h10, h11])]; rfl⟩, (by simp only; omega), Sub.o [] [true, true, false, false, false, true]⟩
  · skip
    refine AW.exit ?_
    refine AW.r ?_
    refine At.a 2 ?_
    refine At.done rfl ?_
    refine AW.ret ?_
    refine ⟨_, Sub.refl _ _, ?_⟩
    refine KF.conv (fun w => .int .i64 w) (fun w => []) (show (kk) = (held okR nxR a k) from by rw [hR, List.drop_of_length_le (by omega)]; rfl) ?_
    exact KF.m [] [.int .i64 kk]
set_option maxRecDepth 100000 in
set_option maxHeartbeats 4000000 in
theorem laws_heldOutS_spec  (a : List Out) (k : Int) (ha : FewOuts a) (hk : 0 ≤ k ∧ k ≤ 4611686017427387904) : FnSpec Try.prog 15 [.sl false 17 (a.map encOutV), .int .i64 k] [] (.int .i64 (heldO a k)) [] := by
  obtain ⟨ha1, ha2⟩ := id ha
  refine FnSpec.of 191 Try.func15 rfl Try.ntmps15 (by simp) (AW.weakK ?_)
  refine AW.r ?_
  refine At.a 1 ?_
  refine At.done rfl ?_
  refine AW.seq ?_
  refine AW.r ?_
  refine At.a 1 ?_
  refine At.done rfl ?_
  refine AW.block ?_
  refine AW.loopW (fun (x : Nat × Int) => match x with | (i, kk) => Go.Sy.mk [.sl false 17 (a.map encOutV), .int .i64 kk, .un, .un, .un, .int .i64 (i : Int)] []) (fun (x : Nat × Int) => match x with | (i, kk) => i ≤ a.length ∧ 0 ≤ kk ∧ kk ≤ k + 1000 * i ∧ heldO a k = heldO (a.drop i) kk) (fun (x : Nat × Int) => match x with | (i, kk) => a.length - i) (0, k) ⟨by omega, by omega, by omega, by rw [List.drop_zero]⟩ (Sub.o [] [true, true, false, false, false, true]) ?_
  rintro ⟨i, kk⟩ ⟨hi, hkk, hkb, hR⟩
  refine AW.seq ?_
  refine AW.r ?_
  refine At.a 3 ?_
  refine At.sL 8 encOutV a ?_
  refine At.a 1 ?_
  refine At.done rfl ?_
  refine AW.cD ((i : Int) < (a.length : Int)) (fun h1 => ?_) (fun h1 => ?_)
  · skip
    refine AW.skip ?_
    refine AW.seq ?_
    refine AW.block ?_
    refine AW.seq ?_
    refine AW.r ?_
    refine At.a 2 ?_
    refine At.iSl 29 14 (.tmp 12) (.tmp 13) false 17 (a.map encOutV) .i64 (i : Int) 76 (by omega) (by simp only [List.length_map, List.length_append, List.length_take, List.length_drop, List.length_replicate, List.length_set, List.length_cons, List.length_nil]; omega) ?_
    refine At.a 1 ?_
    refine Exists.elim (show ∃ e, a[i]? = some e from ⟨_, List.getElem?_eq_getElem (by omega)⟩) fun e1 he1 => ?_
    have hen := ha2 _ (List.mem_of_getElem? he1)
    refine At.lVp 3 16 (.tmp 15) false 17 (a.map encOutV) i 0 false 1 (encOutV e1) (.int .i64 e1.to) (mapGet he1) ?_
    refine At.a 2 ?_
    refine At.done rfl ?_
    refine AW.cU e1.to kk (fun h2 => ?_) (fun h2 => ?_)
    · skip
      refine AW.r ?_
      refine At.a 1 ?_
      refine At.done rfl ?_
      refine AW.ret ?_
      refine ⟨_, Sub.refl _ _, ?_⟩
      refine KF.conv (fun w => .int .i64 w) (fun w => []) (show (-1) = (heldO a k) from by rw [hR, dropCons he1, heldO, if_neg (by simp [okM, h1, h2])]) ?_
      exact KF.m [] [.int .i64 (-1)]
    · skip
      refine AW.skip ?_
      refine AW.r ?_
      refine At.a 2 ?_
      refine At.sI 20 (kk + 1) (by omega) ?_
      refine At.a 1 ?_
      refine At.done rfl ?_
      refine AW.seq ?_
      refine AW.r ?_
      refine At.a 2 ?_
      refine At.iSl 29 23 (.tmp 21) (.tmp 22) false 17 (a.map encOutV) .i64 (i : Int) 76 (by omega) (by simp only [List.length_map, List.length_append, List.length_take, List.length_drop, List.length_replicate, List.length_set, List.length_cons, List.length_nil]; omega) ?_
      refine At.a 2 ?_
      refine At.lVp 3 26 (.tmp 25) false 17 (a.map encOutV) i 1 false 1 (encOutV e1) (.int .i64 e1.msg.kind) (mapGet he1) ?_
      refine At.a 2 ?_
      refine At.done rfl ?_
      refine AW.cU e1.msg.kind (kk + 1) (fun h3 => ?_) (fun h3 => ?_)
      · skip
        refine AW.r ?_
        refine At.a 1 ?_
        refine At.done rfl ?_
        refine AW.ret ?_
        refine ⟨_, Sub.refl _ _, ?_⟩
        refine KF.conv (fun w => .int .i64 w) (fun w => []) (show (-1) = (heldO a k) from by rw [hR, dropCons he1, heldO, if_neg (by simp [okM, h1, h2, h3])]) ?_
        exact KF.m [] [.int .i64 (-1)]
      · skip
        refine AW.skip ?_
        refine AW.r ?_
        refine At.a 2 ?_
        refine At.sJ 30 ((kk + 1) + 1) (kk + 2) (by omega) (by omega) ?_
        refine At.a 1 ?_
        refine At.done rfl ?_
        refine AW.seq ?_
        refine AW.r ?_
        refine At.a 2 ?_
        refine At.iSl 29 33 (.tmp 31) (.tmp 32) false 17 (a.map encOutV) .i64 (i : Int) 76 (by omega) (by simp only [List.length_map, List.length_append, List.length_take, List.length_drop, List.length_replicate, List.length_set, List.length_cons, List.length_nil]; omega) ?_
        refine At.a 2 ?_
        refine At.lVp 3 36 (.tmp 35) false 17 (a.map encOutV) i 2 false 1 (encOutV e1) (.int .i64 e1.msg.from_) (mapGet he1) ?_
        refine At.a 2 ?_
        refine At.done rfl ?_
        refine AW.cU e1.msg.from_ (kk + 2) (fun h4 => ?_) (fun h4 => ?_)
        · skip
          refine AW.r ?_
          refine At.a 1 ?_
          refine At.done rfl ?_
          refine AW.ret ?_
          refine ⟨_, Sub.refl _ _, ?_⟩
          refine KF.conv (fun w => .int .i64 w) (fun w => []) (show (-1) = (heldO a k) from by rw [hR, dropCons he1, heldO, if_neg (by simp [okM, h1, h2, h3, h4])]) ?_
          exact KF.m [] [.int .i64 (-1)]
        · skip
          refine AW.skip ?_
          refine AW.r ?_
          refine At.a 2 ?_
          refine At.sJ 40 ((kk + 2) + 1) (kk + 3) (by omega) (by omega) ?_
          refine At.a 1 ?_
          refine At.done rfl ?_
          refine AW.seq ?_
          refine AW.r ?_
          refine At.a 2 ?_
          refine At.iSl 29 43 (.tmp 41) (.tmp 42) false 17 (a.map encOutV) .i64 (i : Int) 76 (by omega) (by simp only [List.length_map, List.length_append, List.length_take, List.length_drop, List.length_replicate, List.length_set, List.length_cons, List.length_nil]; omega) ?_
          refine At.a 2 ?_
          refine At.lVp 3 46 (.tmp 45) false 17 (a.map encOutV) i 3 false 1 (encOutV e1) (.int .i64 e1.msg.term) (mapGet he1) ?_
          refine At.a 2 ?_
          refine At.done rfl ?_
          refine AW.cU e1.msg.term (kk + 3) (fun h5 => ?_) (fun h5 => ?_)
          · skip
            refine AW.r ?_
            refine At.a 1 ?_
            refine At.done rfl ?_
            refine AW.ret ?_
            refine ⟨_, Sub.refl _ _, ?_⟩
            refine KF.conv (fun w => .int .i64 w) (fun w => []) (show (-1) = (heldO a k) from by rw [hR, dropCons he1, heldO, if_neg (by simp [okM, h1, h2, h3, h4, h5])]) ?_
            exact KF.m [] [.int .i64 (-1)]
          · skip
            refine AW.skip ?_
            refine AW.r ?_
            refine At.a 2 ?_
            refine At.sJ 50 ((kk + 3) + 1) (kk + 4) (by omega) (by omega) ?_
            refine At.a 1 ?_
            refine At.done rfl ?_
            refine AW.seq ?_
            refine AW.r ?_
            refine At.a 2 ?_
            refine At.iSl 29 53 (.tmp 51) (.tmp 52) false 17 (a.map encOutV) .i64 (i : Int) 76 (by omega) (by simp only [List.length_map, List.length_append, List.length_take, List.length_drop, List.length_replicate, List.length_set, List.length_cons, List.length_nil]; omega) ?_
            refine At.a 2 ?_
            refine At.lVp 3 56 (.tmp 55) false 17 (a.map encOutV) i 4 false 1 (encOutV e1) (.int .i64 e1.msg.at_) (mapGet he1) ?_
            refine At.a 2 ?_
            refine At.done rfl ?_
            refine AW.cU e1.msg.at_ (kk + 4) (fun h6 => ?_) (fun h6 => ?_)
            · skip
              refine AW.r ?_
              refine At.a 1 ?_
              refine At.done rfl ?_
              refine AW.ret ?_
              refine ⟨_, Sub.refl _ _, ?_⟩
              refine KF.conv (fun w => .int .i64 w) (fun w => []) (show (-1) = (heldO a k) from by rw [hR, dropCons he1, heldO, if_neg (by simp [okM, h1, h2, h3, h4, h5, h6])]) ?_
              exact KF.m [] [.int .i64 (-1)]
            · skip
              refine AW.skip ?_
              refine AW.r ?_
              refine At.a 2 ?_
              refine At.sJ 60 ((kk + 4) + 1) (kk + 5) (by omega) (by omega) ?_
              refine At.a 1 ?_
              refine At.done rfl ?_
              refine AW.seq ?_
              refine AW.r ?_
              refine At.a 2 ?_
              refine At.iSl 29 63 (.tmp 61) (.tmp 62) false 17 (a.map encOutV) .i64 (i : Int) 76 (by omega) (by simp only [List.length_map, List.length_append, List.length_take, List.length_drop, List.length_replicate, List.length_set, List.length_cons, List.length_nil]; omega) ?_
              refine At.a 2 ?_
              refine At.lVp 3 66 (.tmp 65) false 17 (a.map encOutV) i 5 false 1 (encOutV e1) (.int .i64 e1.msg.atTerm) (mapGet he1) ?_
              refine At.a 2 ?_
              refine At.done rfl ?_
              refine AW.cU e1.msg.atTerm (kk + 5) (fun h7 => ?_) (fun h7 => ?_)
              · skip
                refine AW.r ?_
                refine At.a 1 ?_
                refine At.done rfl ?_
                refine AW.ret ?_
                refine ⟨_, Sub.refl _ _, ?_⟩
                refine KF.conv (fun w => .int .i64 w) (fun w => []) (show (-1) = (heldO a k) from by rw [hR, dropCons he1, heldO, if_neg (by simp [okM, h1, h2, h3, h4, h5, h6, h7])]) ?_
                exact KF.m [] [.int .i64 (-1)]
              · skip
                refine AW.skip ?_
                refine AW.r ?_
                refine At.a 2 ?_
                refine At.sJ 70 ((kk + 5) + 1) (kk + 6) (by omega) (by omega) ?_
                refine At.a 1 ?_
                refine At.done rfl ?_
                refine AW.seq ?_
                refine AW.r ?_
                refine At.a 2 ?_
                refine At.iSl 29 73 (.tmp 71) (.tmp 72) false 17 (a.map encOutV) .i64 (i : Int) 76 (by omega) (by simp only [List.length_map, List.length_append, List.length_take, List.length_drop, List.length_replicate, List.length_set, List.length_cons, List.length_nil]; omega) ?_
                refine At.a 2 ?_
                refine At.lVp 3 76 (.tmp 75) false 17 (a.map encOutV) i 6 false 1 (encOutV e1) (.int .i64 e1.msg.commit) (mapGet he1) ?_
                refine At.a 2 ?_
                refine At.done rfl ?_
                refine AW.cU e1.msg.commit (kk + 6) (fun h8 => ?_) (fun h8 => ?_)
                · skip
                  refine AW.r ?_
                  refine At.a 1 ?_
                  refine At.done rfl ?_
                  refine AW.ret ?_
                  refine ⟨_, Sub.refl _ _, ?_⟩
                  refine KF.conv (fun w => .int .i64 w) (fun w => []) (show (-1) = (heldO a k) from by rw [hR, dropCons he1, heldO, if_neg (by simp [okM, h1, h2, h3, h4, h5, h6, h7, h8])]) ?_
                  exact KF.m [] [.int .i64 (-1)]
                · skip
                  refine AW.skip ?_
                  refine AW.r ?_
                  refine At.a 2 ?_
                  refine At.sJ 80 ((kk + 6) + 1) (kk + 7) (by omega) (by omega) ?_
                  refine At.a 1 ?_
                  refine At.done rfl ?_
                  refine AW.seq ?_
                  refine AW.r ?_
                  refine At.a 2 ?_
                  refine At.iSl 29 83 (.tmp 81) (.tmp 82) false 17 (a.map encOutV) .i64 (i : Int) 76 (by omega) (by simp only [List.length_map, List.length_append, List.length_take, List.length_drop, List.length_replicate, List.length_set, List.length_cons, List.length_nil]; omega) ?_
                  refine At.a 2 ?_
                  refine At.lVp 4 86 (.tmp 85) false 17 (a.map encOutV) i 7 false 1 (encOutV e1) (.bool e1.msg.yes) (mapGet he1) ?_
                  refine At.a 1 ?_
                  refine At.div (t := 3) (u := 3) (d := 88) (op := .rem) (x := .tmp 87) (y := .const (.int .i64 3)) (kd := .i64) (a := kk + 7) (b := 3) (by kernel_rfl) (by kernel_rfl) (by kernel_rfl) (by kernel_rfl) (by omega) (.int .i64 ((kk + 7).tmod 3)) (.inr ⟨rfl, rfl⟩) ?_
                  refine At.say 88 (.int .i64 ((kk + 7).tmod 3)) (.int .i64 ((kk + 7) % 3)) (by kernel_rfl) (sayRem (by omega)) ?_
                  refine At.a 1 ?_
                  refine At.eqB (t := 4) (u := 4) (d := 90) (op := .neq) (x := .tmp 86) (y := .tmp 89) (a := e1.msg.yes) (b := (((kk + 7) % 3) == 0)) (by kernel_rfl) (by kernel_rfl) (by kernel_rfl) (by kernel_rfl) (by kernel_rfl) (.bool (!(e1.msg.yes == (((kk + 7) % 3) == 0)))) (.inr ⟨rfl, rfl⟩) ?_
                  refine At.done rfl ?_
                  refine AW.cNB (e1.msg.yes == (((kk + 7) % 3) == 0)) (fun h9 => ?_) (fun h9 => ?_)
                  · skip
                    refine AW.r ?_
                    refine At.a 1 ?_
                    refine At.done rfl ?_
                    refine AW.ret ?_
                    refine ⟨_, Sub.refl _ _, ?_⟩
                    refine KF.conv (fun w => .int .i64 w) (fun w => []) (show (-1) = (heldO a k) from by rw [hR, dropCons he1, heldO, if_neg (by simp [okM, h1, h2, h3, h4, h5, h6, h7, h8, h9])]) ?_
                    exact KF.m [] [.int .i64 (-1)]
                  · skip
                    refine AW.skip ?_
                    refine AW.r ?_
                    refine At.a 2 ?_
                    refine At.sJ 92 ((kk + 7) + 1) (kk + 8) (by omega) (by omega) ?_
                    refine At.a 1 ?_
                    refine At.done rfl ?_
                    refine AW.seq ?_
                    refine AW.r ?_
                    refine At.a 2 ?_
                    refine At.iSl 29 95 (.tmp 93) (.tmp 94) false 17 (a.map encOutV) .i64 (i : Int) 76 (by omega) (by simp only [List.length_map, List.length_append, List.length_take, List.length_drop, List.length_replicate, List.length_set, List.length_cons, List.length_nil]; omega) ?_
                    refine At.a 2 ?_
                    refine At.lVp 3 98 (.tmp 97) false 17 (a.map encOutV) i 8 false 1 (encOutV e1) (.int .i64 e1.msg.release) (mapGet he1) ?_
                    refine At.a 2 ?_
                    refine At.done rfl ?_
                    refine AW.cU e1.msg.release (kk + 8) (fun h10 => ?_) (fun h10 => ?_)
                    · skip
                      refine AW.r ?_
                      refine At.a 1 ?_
                      refine At.done rfl ?_
                      refine AW.ret ?_
                      refine ⟨_, Sub.refl _ _, ?_⟩
                      refine KF.conv (fun w => .int .i64 w) (fun w => []) (show (-1) = (heldO a k) from by rw [hR, dropCons he1, heldO, if_neg (by simp [okM, h1, h2, h3, h4, h5, h6, h7, h8, h9, h10])]) ?_
                      exact KF.m [] [.int .i64 (-1)]
                    · skip
                      refine AW.skip ?_
                      refine AW.r ?_
                      refine At.a 2 ?_
                      refine At.sJ 102 ((kk + 8) + 1) (kk + 9) (by omega) (by omega) ?_
                      refine At.a 1 ?_
                      refine At.done rfl ?_
                      refine AW.seq ?_
                      refine AW.r ?_
                      refine At.a 2 ?_
                      refine At.iSl 29 105 (.tmp 103) (.tmp 104) false 17 (a.map encOutV) .i64 (i : Int) 76 (by omega) (by simp only [List.length_map, List.length_append, List.length_take, List.length_drop, List.length_replicate, List.length_set, List.length_cons, List.length_nil]; omega) ?_
                      refine At.a 2 ?_
                      refine At.lVp 3 108 (.tmp 107) false 17 (a.map encOutV) i 9 false 1 (encOutV e1) (.int .i64 e1.msg.part) (mapGet he1) ?_
                      refine At.a 2 ?_
                      refine At.done rfl ?_
                      refine AW.cU e1.msg.part (kk + 9) (fun h11 => ?_) (fun h11 => ?_)
                      · skip
                        refine AW.r ?_
                        refine At.a 1 ?_
                        refine At.done rfl ?_
                        refine AW.ret ?_
                        refine ⟨_, Sub.refl _ _, ?_⟩
                        refine KF.conv (fun w => .int .i64 w) (fun w => []) (show (-1) = (heldO a k) from by rw [hR, dropCons he1, heldO, if_neg (by simp [okM, h1, h2, h3, h4, h5, h6, h7, h8, h9, h10, h11])]) ?_
                        exact KF.m [] [.int .i64 (-1)]
                      · skip
                        refine AW.skip ?_
                        refine AW.r ?_
                        refine At.a 2 ?_
                        refine At.sJ 112 ((kk + 9) + 1) (kk + 10) (by omega) (by omega) ?_
                        refine At.a 1 ?_
                        refine At.done rfl ?_
                        refine AW.seq ?_
                        refine AW.seq ?_
                        refine AW.regionD Try_mix (At.start ?_)
                        refine At.a 2 ?_
                        refine At.iSl 29 115 (.tmp 113) (.tmp 114) false 17 (a.map encOutV) .i64 (i : Int) 76 (by omega) (by simp only [List.length_map, List.length_append, List.length_take, List.length_drop, List.length_replicate, List.length_set, List.length_cons, List.length_nil]; omega) ?_
                        refine At.a 2 ?_
                        refine At.lVp 9 118 (.tmp 117) false 17 (a.map encOutV) i 10 false 1 (encOutV e1) (.str e1.msg.bytes) (mapGet he1) ?_
                        refine At.a 1 ?_
                        refine At.c (laws_markText_spec  (kk + 10) (by omega)) Try.call48 true [] [] [] trivial ?_
                        refine At.a 1 ?_
                        refine At.done rfl ⟨by kernel_rfl, ?_⟩
                        refine AW.cNE (e1.msg.bytes.toList) ((markT (kk + 10)).toList) (fun h12 => ?_) (fun h12 => ?_)
                        · skip
                          refine AW.r ?_
                          refine At.a 1 ?_
                          refine At.done rfl ?_
                          refine AW.ret ?_
                          refine ⟨_, Sub.refl _ _, ?_⟩
                          refine KF.conv (fun w => .int .i64 w) (fun w => []) (show (-1) = (heldO a k) from by rw [hR, dropCons he1, heldO, if_neg (by simp [okM, h1, h2, h3, h4, h5, h6, h7, h8, h9, h10, h11, h12])]) ?_
                          exact KF.m [] [.int .i64 (-1)]
                        · skip
                          refine AW.skip ?_
                          refine AW.r ?_
                          refine At.a 2 ?_
                          refine At.sJ 123 ((kk + 10) + 1) (kk + 11) (by omega) (by omega) ?_
                          refine At.a 1 ?_
                          refine At.done rfl ?_
                          refine AW.seq ?_
                          refine AW.r ?_
                          refine At.a 2 ?_
                          refine At.iSl 29 126 (.tmp 124) (.tmp 125) false 17 (a.map encOutV) .i64 (i : Int) 76 (by omega) (by simp only [List.length_map, List.length_append, List.length_take, List.length_drop, List.length_replicate, List.length_set, List.length_cons, List.length_nil]; omega) ?_
                          refine At.a 3 ?_
                          refine At.lVp 3 130 (.tmp 129) false 17 (a.map encOutV) i 11 false 1 (encOutV e1) (.int .i64 e1.msg.cmd.kind) (mapGet he1) ?_
                          refine At.a 2 ?_
                          refine At.done rfl ?_
                          refine AW.cU e1.msg.cmd.kind (kk + 11) (fun h13 => ?_) (fun h13 => ?_)
                          · skip
                            refine AW.r ?_
                            refine At.a 1 ?_
                            refine At.done rfl ?_
                            refine AW.ret ?_
                            refine ⟨_, Sub.refl _ _, ?_⟩
                            refine KF.conv (fun w => .int .i64 w) (fun w => []) (show (-1) = (heldO a k) from by rw [hR, dropCons he1, heldO, if_neg (by simp [okM, h1, h2, h3, h4, h5, h6, h7, h8, h9, h10, h11, h12, h13])]) ?_
                            exact KF.m [] [.int .i64 (-1)]
                          · skip
                            refine AW.skip ?_
                            refine AW.r ?_
                            refine At.a 2 ?_
                            refine At.sJ 134 ((kk + 11) + 1) (kk + 12) (by omega) (by omega) ?_
                            refine At.a 1 ?_
                            refine At.done rfl ?_
                            refine AW.seq ?_
                            refine AW.r ?_
                            refine At.a 2 ?_
                            refine At.iSl 29 137 (.tmp 135) (.tmp 136) false 17 (a.map encOutV) .i64 (i : Int) 76 (by omega) (by simp only [List.length_map, List.length_append, List.length_take, List.length_drop, List.length_replicate, List.length_set, List.length_cons, List.length_nil]; omega) ?_
                            refine At.a 3 ?_
                            refine At.lVp 3 141 (.tmp 140) false 17 (a.map encOutV) i 12 false 1 (encOutV e1) (.int .i64 e1.msg.cmd.release) (mapGet he1) ?_
                            refine At.a 2 ?_
                            refine At.done rfl ?_
                            refine AW.cU e1.msg.cmd.release (kk + 12) (fun h14 => ?_) (fun h14 => ?_)
                            · skip
                              refine AW.r ?_
                              refine At.a 1 ?_
                              refine At.done rfl ?_
                              refine AW.ret ?_
                              refine ⟨_, Sub.refl _ _, ?_⟩
                              refine KF.conv (fun w => .int .i64 w) (fun w => []) (show (-1) = (heldO a k) from by rw [hR, dropCons he1, heldO, if_neg (by simp [okM, h1, h2, h3, h4, h5, h6, h7, h8, h9, h10, h11, h12, h13, h14])]) ?_
                              exact KF.m [] [.int .i64 (-1)]
                            · skip
                              refine AW.skip ?_
                              refine AW.r ?_
                              refine At.a 2 ?_
                              refine At.sJ 145 ((kk + 12) + 1) (kk + 13) (by omega) (by omega) ?_
                              refine At.a 1 ?_
                              refine At.done rfl ?_
                              refine AW.seq ?_
                              refine AW.r ?_
                              refine At.a 2 ?_
                              refine At.iSl 29 148 (.tmp 146) (.tmp 147) false 17 (a.map encOutV) .i64 (i : Int) 76 (by omega) (by simp only [List.length_map, List.length_append, List.length_take, List.length_drop, List.length_replicate, List.length_set, List.length_cons, List.length_nil]; omega) ?_
                              refine At.a 3 ?_
                              refine At.lVp 3 152 (.tmp 151) false 17 (a.map encOutV) i 13 false 1 (encOutV e1) (.int .i64 e1.msg.cmd.node) (mapGet he1) ?_
                              refine At.a 2 ?_
                              refine At.done rfl ?_
                              refine AW.cU e1.msg.cmd.node (kk + 13) (fun h15 => ?_) (fun h15 => ?_)
                              · skip
                                refine AW.r ?_
                                refine At.a 1 ?_
                                refine At.done rfl ?_
                                refine AW.ret ?_
                                refine ⟨_, Sub.refl _ _, ?_⟩
                                refine KF.conv (fun w => .int .i64 w) (fun w => []) (show (-1) = (heldO a k) from by rw [hR, dropCons he1, heldO, if_neg (by simp [okM, h1, h2, h3, h4, h5, h6, h7, h8, h9, h10, h11, h12, h13, h14, h15])]) ?_
                                exact KF.m [] [.int .i64 (-1)]
                              · skip
                                refine AW.skip ?_
                                refine AW.r ?_
                                refine At.a 2 ?_
                                refine At.sJ 156 ((kk + 13) + 1) (kk + 14) (by omega) (by omega) ?_
                                refine At.a 1 ?_
                                refine At.done rfl ?_
                                refine AW.seq ?_
                                refine AW.r ?_
                                refine At.a 2 ?_
                                refine At.iSl 29 159 (.tmp 157) (.tmp 158) false 17 (a.map encOutV) .i64 (i : Int) 76 (by omega) (by simp only [List.length_map, List.length_append, List.length_take, List.length_drop, List.length_replicate, List.length_set, List.length_cons, List.length_nil]; omega) ?_
                                refine At.a 3 ?_
                                refine At.lVp 3 163 (.tmp 162) false 17 (a.map encOutV) i 14 false 1 (encOutV e1) (.int .i64 e1.msg.cmd.size) (mapGet he1) ?_
                                refine At.a 2 ?_
                                refine At.done rfl ?_
                                refine AW.cU e1.msg.cmd.size (kk + 14) (fun h16 => ?_) (fun h16 => ?_)
                                · skip
                                  refine AW.r ?_
                                  refine At.a 1 ?_
                                  refine At.done rfl ?_
                                  refine AW.ret ?_
                                  refine ⟨_, Sub.refl _ _, ?_⟩
                                  refine KF.conv (fun w => .int .i64 w) (fun w => []) (show (-1) = (heldO a k) from by rw [hR, dropCons he1, heldO, if_neg (by simp [okM, h1, h2, h3, h4, h5, h6, h7, h8, h9, h10, h11, h12, h13, h14, h15, h16])]) ?_
                                  exact KF.m [] [.int .i64 (-1)]
                                · skip
                                  refine AW.skip ?_
                                  refine AW.r ?_
                                  refine At.a 2 ?_
                                  refine At.sJ 167 ((kk + 14) + 1) (kk + 15) (by omega) (by omega) ?_
                                  refine At.a 1 ?_
                                  refine At.done rfl ?_
                                  refine AW.seq ?_
                                  refine AW.seq ?_
                                  refine AW.regionD Try_mix (At.start ?_)
                                  refine At.a 2 ?_
                                  refine At.iSl 29 170 (.tmp 168) (.tmp 169) false 17 (a.map encOutV) .i64 (i : Int) 76 (by omega) (by simp only [List.length_map, List.length_append, List.length_take, List.length_drop, List.length_replicate, List.length_set, List.length_cons, List.length_nil]; omega) ?_
                                  refine At.a 3 ?_
                                  refine At.lVp 9 174 (.tmp 173) false 17 (a.map encOutV) i 15 false 1 (encOutV e1) (.str e1.msg.cmd.digest) (mapGet he1) ?_
                                  refine At.a 1 ?_
                                  refine At.c (laws_markText_spec  (kk + 15) (by omega)) Try.call48 true [] [] [] trivial ?_
                                  refine At.a 1 ?_
                                  refine At.done rfl ⟨by kernel_rfl, ?_⟩
                                  refine AW.cNE (e1.msg.cmd.digest.toList) ((markT (kk + 15)).toList) (fun h17 => ?_) (fun h17 => ?_)
                                  · skip
                                    refine AW.r ?_
                                    refine At.a 1 ?_
                                    refine At.done rfl ?_
                                    refine AW.ret ?_
                                    refine ⟨_, Sub.refl _ _, ?_⟩
                                    refine KF.conv (fun w => .int .i64 w) (fun w => []) (show (-1) = (heldO a k) from by rw [hR, dropCons he1, heldO, if_neg (by simp [okM, h1, h2, h3, h4, h5, h6, h7, h8, h9, h10, h11, h12, h13, h14, h15, h16, h17])]) ?_
                                    exact KF.m [] [.int .i64 (-1)]
                                  · skip
                                    refine AW.skip ?_
                                    refine AW.r ?_
                                    refine At.a 2 ?_
                                    refine At.sJ 179 ((kk + 15) + 1) (kk + 16) (by omega) (by omega) ?_
                                    refine At.a 1 ?_
                                    refine At.done rfl ?_
                                    refine AW.r ?_
                                    refine At.a 2 ?_
                                    refine At.iSl 29 182 (.tmp 180) (.tmp 181) false 17 (a.map encOutV) .i64 (i : Int) 76 (by omega) (by simp only [List.length_map, List.length_append, List.length_take, List.length_drop, List.length_replicate, List.length_set, List.length_cons, List.length_nil]; omega) ?_
                                    refine At.a 2 ?_
                                    refine At.lVp 31 185 (.tmp 184) false 17 (a.map encOutV) i 16 false 1 (encOutV e1) (.sl false 6 (e1.msg.entries.map encEnt)) (mapGet he1) ?_
                                    refine At.a 1 ?_
                                    refine At.c (laws_heldEntryS_spec  e1.msg.entries (kk + 16) (by omega) (by omega)) Try.call50 true [] [] [] trivial ?_
                                    have hhe := heldE_le e1.msg.entries (kk + 16) (by omega)
                                    refine At.a 1 ?_
                                    refine At.done rfl ?_
                                    refine AW.r ?_
                                    refine At.a 2 ?_
                                    refine At.done rfl ?_
                                    refine AW.cD ((held okE nxE e1.msg.entries (kk + 16)) < 0) (fun h18 => ?_) (fun h18 => ?_)
                                    · skip
                                      refine AW.r ?_
                                      refine At.a 1 ?_
                                      refine At.done rfl ?_
                                      refine AW.ret ?_
                                      refine ⟨_, Sub.refl _ _, ?_⟩
                                      refine KF.conv (fun w => .int .i64 w) (fun w => []) (show (-1) = (heldO a k) from by rw [hR, dropCons he1, heldO, if_pos (by simp [okM, h1, h2, h3, h4, h5, h6, h7, h8, h9, h10, h11, h12, h13, h14, h15, h16, h17, h18]), if_pos (by assumption)]) ?_
                                      exact KF.m [] [.int .i64 (-1)]
                                    · skip
                                      refine AW.skip ?_
                                      refine AW.region (At.start ?_)
                                      refine At.a 2 ?_
                                      refine At.sI 11 ((i : Int) + 1) (by omega) ?_
                                      refine At.a 1 ?_
                                      refine At.done rfl ?_
                                      exact ⟨(i + 1, (held okE nxE e1.msg.entries (kk + 16))), ⟨by omega, by omega, by omega, by rw [hR, dropCons he1, heldO, if_pos (by simp [okM, h1, h2, h3, h4, h5, h6, h7, h8, h9, h10, h11, h12, h13, h14, h15, h16, h17, h18]), if_neg (by assumption)]⟩, (by simp only; omega), Sub.o [] [true, true, false, false, false, true]⟩
  · skip
    refine AW.exit ?_
    refine AW.r ?_
    refine At.a 2 ?_
    refine At.done rfl ?_
    refine AW.ret ?_
    refine ⟨_, Sub.refl _ _, ?_⟩
    refine KF.conv (fun w => .int .i64 w) (fun w => []) (show (kk) = (heldO a k) from by rw [hR, List.drop_of_length_le (by omega)]; rfl) ?_
    exact KF.m [] [.int .i64 kk]
set_option maxRecDepth 100000 in
set_option maxHeartbeats 4000000 in
theorem laws_FnExactRaftStand_spec  (aR : Raft) (hb : BigR aR) : FnSpec Try.prog 5 [.agg [.int .i64 aR.id, .int .i64 aR.of_, .int .i64 aR.role, .int .i64 aR.commit, .int .i64 aR.hard.term, .int .i64 aR.hard.vote, .sl false 6 (aR.hard.log.map encEnt), .sl false 1 (aR.yes.map encI), .sl false 1 (aR.next.map encI), .sl false 1 (aR.match_.map encI)]] [] (.bool true) [] := by
  refine FnSpec.of 149 Try.func5 rfl Try.ntmps5 (by simp) (AW.weakK ?_)
  refine AW.r ?_
  refine At.a 2 ?_
  refine At.done rfl ?_
  refine AW.r ?_
  refine At.a 1 ?_
  refine At.done rfl ?_
  refine AW.r ?_
  refine At.a 2 ?_
  refine At.c (laws_szRaft_spec  aR 1048576 (by omega) hb) Try.call7 true [] [] [] trivial ?_
  refine At.a 1 ?_
  refine At.done rfl ?_
  refine AW.seq ?_
  refine AW.r ?_
  refine At.a 2 ?_
  refine At.done rfl ?_
  refine AW.cD ((szRaft aR 1048576) < 0) (fun h1 => ?_) (fun h1 => ?_)
  · skip
    refine AW.r ?_
    refine At.a 1 ?_
    refine At.done rfl ?_
    refine AW.ret ?_
    refine ⟨_, Sub.refl _ _, ?_⟩
    exact KF.m [] [.bool true]
  · skip
    have hzz := szRaft_small (by omega) h1
    have hz := hzz.1
    have hz2 := hzz.2
    have hzp : SmallR ((stands aR).1) := stands_small hz
    have hke := raftEnd_eq aR 1
    have hkp := raftEnd_eq ((stands aR).1) 1
    obtain ⟨z1, z2, z3, z4⟩ := id hz
    obtain ⟨p1, p2, p3, p4⟩ := id hzp
    have hrl : ((stands aR).2.1).length ≤ 10 := stands_len _
    have hfew : FewOuts ((stands aR).2.2) := stands_few _
    have hre := endsR_eq ((stands aR).2.1) (raftEnd ((stands aR).1) 1)
    have hme := hfew.ends (ends nxR ((stands aR).2.1) (raftEnd ((stands aR).1) 1))
    have hmf := hfew.marks (ends nxR ((stands aR).2.1) (raftEnd ((stands aR).1) 1))
    refine AW.skip ?_
    refine AW.r ?_
    refine At.a 1 ?_
    refine At.c (laws_toRaft_spec  aR hz) Try.call9 true [] [(1480, 0), (1481, 1), (1482, 2), (1483, 3)] [] trivial ?_
    refine At.c (spec_RaftStand_spec  aR hz) Try.call24 false [] [(1500, 0), (1501, 1), (1502, 2), (1503, 3), (1504, 4), (1505, 5)] [(1480, 6, (aR.hard.log.map encEnt)), (1481, 1, (aR.yes.map encI)), (1482, 1, (aR.next.map encI)), (1483, 1, (aR.match_.map encI))] ⟨rfl, ⟨88, (aR.hard.log.map encEnt), by kernel_rfl, FrzIs.same (allP_encEnt _)⟩, rfl, ⟨3, (aR.yes.map encI), by kernel_rfl, FrzIs.same (allP_encI _)⟩, rfl, ⟨3, (aR.next.map encI), by kernel_rfl, FrzIs.same (allP_encI _)⟩, rfl, ⟨3, (aR.match_.map encI), by kernel_rfl, FrzIs.same (allP_encI _)⟩, trivial⟩ ?_
    refine At.a 8 ?_
    refine At.done rfl ?_
    refine AW.r ?_
    refine At.a 1 ?_
    refine At.c (laws_toRaft_spec  aR hz) Try.call9 true [] [(1600, 0), (1601, 1), (1602, 2), (1603, 3)] [] trivial ?_
    refine At.a 2 ?_
    refine At.done rfl ?_
    refine AW.r ?_
    refine At.a 1 ?_
    refine At.c (impl_RaftStand_spec  aR hz) Try.call25 false [] [(1660, 0), (1661, 1), (1662, 2), (1663, 3), (1664, 4), (1665, 5)] [(1600, 6, (aR.hard.log.map encEnt)), (1601, 1, (aR.yes.map encI)), (1602, 1, (aR.next.map encI)), (1603, 1, (aR.match_.map encI))] ⟨rfl, ⟨88, (aR.hard.log.map encEnt), by kernel_rfl, FrzIs.same (allP_encEnt _)⟩, rfl, ⟨3, (aR.yes.map encI), by kernel_rfl, FrzIs.same (allP_encI _)⟩, rfl, ⟨3, (aR.next.map encI), by kernel_rfl, FrzIs.same (allP_encI _)⟩, rfl, ⟨3, (aR.match_.map encI), by kernel_rfl, FrzIs.same (allP_encI _)⟩, trivial⟩ ?_
    refine At.a 8 ?_
    refine At.done rfl ?_
    refine AW.seq ?_
    refine AW.r ?_
    refine At.a 2 ?_
    refine At.c (laws_eqRaft_spec  ((stands aR).1) ((stands aR).1) (by exact hzp) (by exact hzp)) Try.call12 false [] [] [(1660, 6, ((((stands aR).1).hard.log).map encEnt)), (1661, 1, ((((stands aR).1).yes).map encI)), (1662, 1, ((((stands aR).1).next).map encI)), (1663, 1, ((((stands aR).1).match_).map encI)), (1500, 6, ((((stands aR).1).hard.log).map encEnt)), (1501, 1, ((((stands aR).1).yes).map encI)), (1502, 1, ((((stands aR).1).next).map encI)), (1503, 1, ((((stands aR).1).match_).map encI))] ⟨rfl, ⟨88, ((((stands aR).1).hard.log).map encEnt), by kernel_rfl, FrzIs.same (allP_encEnt _)⟩, rfl, ⟨3, ((((stands aR).1).yes).map encI), by kernel_rfl, FrzIs.same (allP_encI _)⟩, rfl, ⟨3, ((((stands aR).1).next).map encI), by kernel_rfl, FrzIs.same (allP_encI _)⟩, rfl, ⟨3, ((((stands aR).1).match_).map encI), by kernel_rfl, FrzIs.same (allP_encI _)⟩, rfl, ⟨88, ((((stands aR).1).hard.log).map encEnt), by kernel_rfl, FrzIs.same (allP_encEnt _)⟩, rfl, ⟨3, ((((stands aR).1).yes).map encI), by kernel_rfl, FrzIs.same (allP_encI _)⟩, rfl, ⟨3, ((((stands aR).1).next).map encI), by kernel_rfl, FrzIs.same (allP_encI _)⟩, rfl, ⟨3, ((((stands aR).1).match_).map encI), by kernel_rfl, FrzIs.same (allP_encI _)⟩, trivial⟩ ?_
    refine At.a 2 ?_
    refine At.sB 41 (!(raftEq ((stands aR).1) ((stands aR).1))) false (sayB (by rw [show (raftEq ((stands aR).1) ((stands aR).1)) = true from (raftEq_refl _)]; rfl)) ?_
    refine At.a 2 ?_
    refine At.c (laws_eqRecS_spec  ((stands aR).2.1) ((stands aR).2.1) (by omega) (by omega)) Try.call20 false [] [] [(1664, 10, (((stands aR).2.1).map encRec)), (1504, 10, (((stands aR).2.1).map encRec))] ⟨rfl, ⟨93, (((stands aR).2.1).map encRec), by kernel_rfl, FrzIs.same (allP_encRec _)⟩, rfl, ⟨93, (((stands aR).2.1).map encRec), by kernel_rfl, FrzIs.same (allP_encRec _)⟩, trivial⟩ ?_
    refine At.a 3 ?_
    refine At.sB 47 (!(listEq recEq ((stands aR).2.1) ((stands aR).2.1))) false (sayB (by rw [show (listEq recEq ((stands aR).2.1) ((stands aR).2.1)) = true from (listEq_refl recEq_refl _)]; rfl)) ?_
    refine At.a 2 ?_
    refine At.c (laws_eqOutS_spec  ((stands aR).2.2) ((stands aR).2.2) (by have := hfew.1; omega) (by have := hfew.1; omega) (fun o ho => by have := hfew.2 o ho; omega) (fun o ho => by have := hfew.2 o ho; omega)) Try.call11 false [] [] [(1665, 17, (((stands aR).2.2).map encOutV)), (1505, 17, (((stands aR).2.2).map encOutV))] ⟨rfl, ⟨76, (((stands aR).2.2).map encOut), by kernel_rfl, frzOut _⟩, rfl, ⟨76, (((stands aR).2.2).map encOut), by kernel_rfl, frzOut _⟩, trivial⟩ ?_
    refine At.a 2 ?_
    refine At.done rfl ?_
    refine AW.condF (!(listEq outEq ((stands aR).2.2) ((stands aR).2.2))) (by kernel_rfl) (by rw [show (listEq outEq ((stands aR).2.2) ((stands aR).2.2)) = true from (listEq_refl outEq_refl _)]; rfl) ?_
    refine AW.skip ?_
    refine AW.seq ?_
    refine AW.seq ?_
    refine AW.regionD Try_mix (At.start ?_)
    refine At.a 2 ?_
    refine At.c (laws_toRaft_spec  aR hz) Try.call9 true [] [(2100, 0), (2101, 1), (2102, 2), (2103, 3)] [] trivial ?_
    refine At.c (laws_eqRaft_spec  aR aR (by exact hz) (by exact hz)) Try.call12 false [] [] [(1600, 6, (aR.hard.log.map encEnt)), (1601, 1, (aR.yes.map encI)), (1602, 1, (aR.next.map encI)), (1603, 1, (aR.match_.map encI)), (2100, 6, (aR.hard.log.map encEnt)), (2101, 1, (aR.yes.map encI)), (2102, 1, (aR.next.map encI)), (2103, 1, (aR.match_.map encI))] ⟨rfl, ⟨88, (aR.hard.log.map encEnt), by kernel_rfl, FrzIs.same (allP_encEnt _)⟩, rfl, ⟨3, (aR.yes.map encI), by kernel_rfl, FrzIs.same (allP_encI _)⟩, rfl, ⟨3, (aR.next.map encI), by kernel_rfl, FrzIs.same (allP_encI _)⟩, rfl, ⟨3, (aR.match_.map encI), by kernel_rfl, FrzIs.same (allP_encI _)⟩, rfl, ⟨88, (aR.hard.log.map encEnt), by kernel_rfl, FrzIs.same (allP_encEnt _)⟩, rfl, ⟨3, (aR.yes.map encI), by kernel_rfl, FrzIs.same (allP_encI _)⟩, rfl, ⟨3, (aR.next.map encI), by kernel_rfl, FrzIs.same (allP_encI _)⟩, rfl, ⟨3, (aR.match_.map encI), by kernel_rfl, FrzIs.same (allP_encI _)⟩, trivial⟩ ?_
    refine At.a 1 ?_
    refine At.done rfl ⟨by kernel_rfl, ?_⟩
    refine AW.condF (!(raftEq aR aR)) (by kernel_rfl) (by rw [show (raftEq aR aR) = true from (raftEq_refl _)]; rfl) ?_
    refine AW.skip ?_
    refine AW.r ?_
    refine At.a 1 ?_
    refine At.done rfl ?_
    refine AW.r ?_
    refine At.a 2 ?_
    refine At.c (laws_markRaft_spec  aR 1 (by exact hz) (by omega)) Try.call13 true [(1600, 0), (1601, 1), (1602, 2), (1603, 3)] [] [] trivial ?_
    refine At.a 1 ?_
    refine At.done rfl ?_
    refine AW.seq ?_
    refine AW.r ?_
    refine At.a 3 ?_
    refine At.sB 63 (decide ((raftEnd aR 1) < 0)) false (sayB (decide_eq_false (by have := hke; omega))) ?_
    refine At.a 2 ?_
    refine At.c (laws_eqRaft_spec  ((stands aR).1) ((stands aR).1) (by exact hzp) (by exact hzp)) Try.call12 false [] [] [(1660, 6, ((((stands aR).1).hard.log).map encEnt)), (1661, 1, ((((stands aR).1).yes).map encI)), (1662, 1, ((((stands aR).1).next).map encI)), (1663, 1, ((((stands aR).1).match_).map encI)), (1500, 6, ((((stands aR).1).hard.log).map encEnt)), (1501, 1, ((((stands aR).1).yes).map encI)), (1502, 1, ((((stands aR).1).next).map encI)), (1503, 1, ((((stands aR).1).match_).map encI))] ⟨rfl, ⟨88, ((((stands aR).1).hard.log).map encEnt), by kernel_rfl, FrzIs.same (allP_encEnt _)⟩, rfl, ⟨3, ((((stands aR).1).yes).map encI), by kernel_rfl, FrzIs.same (allP_encI _)⟩, rfl, ⟨3, ((((stands aR).1).next).map encI), by kernel_rfl, FrzIs.same (allP_encI _)⟩, rfl, ⟨3, ((((stands aR).1).match_).map encI), by kernel_rfl, FrzIs.same (allP_encI _)⟩, rfl, ⟨88, ((((stands aR).1).hard.log).map encEnt), by kernel_rfl, FrzIs.same (allP_encEnt _)⟩, rfl, ⟨3, ((((stands aR).1).yes).map encI), by kernel_rfl, FrzIs.same (allP_encI _)⟩, rfl, ⟨3, ((((stands aR).1).next).map encI), by kernel_rfl, FrzIs.same (allP_encI _)⟩, rfl, ⟨3, ((((stands aR).1).match_).map encI), by kernel_rfl, FrzIs.same (allP_encI _)⟩, trivial⟩ ?_
    refine At.a 3 ?_
    refine At.sB 69 (!(raftEq ((stands aR).1) ((stands aR).1))) false (sayB (by rw [show (raftEq ((stands aR).1) ((stands aR).1)) = true from (raftEq_refl _)]; rfl)) ?_
    refine At.a 2 ?_
    refine At.c (laws_eqRecS_spec  ((stands aR).2.1) ((stands aR).2.1) (by omega) (by omega)) Try.call20 false [] [] [(1664, 10, (((stands aR).2.1).map encRec)), (1504, 10, (((stands aR).2.1).map encRec))] ⟨rfl, ⟨93, (((stands aR).2.1).map encRec), by kernel_rfl, FrzIs.same (allP_encRec _)⟩, rfl, ⟨93, (((stands aR).2.1).map encRec), by kernel_rfl, FrzIs.same (allP_encRec _)⟩, trivial⟩ ?_
    refine At.a 3 ?_
    refine At.sB 75 (!(listEq recEq ((stands aR).2.1) ((stands aR).2.1))) false (sayB (by rw [show (listEq recEq ((stands aR).2.1) ((stands aR).2.1)) = true from (listEq_refl recEq_refl _)]; rfl)) ?_
    refine At.a 2 ?_
    refine At.c (laws_eqOutS_spec  ((stands aR).2.2) ((stands aR).2.2) (by have := hfew.1; omega) (by have := hfew.1; omega) (fun o ho => by have := hfew.2 o ho; omega) (fun o ho => by have := hfew.2 o ho; omega)) Try.call11 false [] [] [(1665, 17, (((stands aR).2.2).map encOutV)), (1505, 17, (((stands aR).2.2).map encOutV))] ⟨rfl, ⟨76, (((stands aR).2.2).map encOut), by kernel_rfl, frzOut _⟩, rfl, ⟨76, (((stands aR).2.2).map encOut), by kernel_rfl, frzOut _⟩, trivial⟩ ?_
    refine At.a 2 ?_
    refine At.done rfl ?_
    refine AW.condF (!(listEq outEq ((stands aR).2.2) ((stands aR).2.2))) (by kernel_rfl) (by rw [show (listEq outEq ((stands aR).2.2) ((stands aR).2.2)) = true from (listEq_refl outEq_refl _)]; rfl) ?_
    refine AW.skip ?_
    refine AW.r ?_
    refine At.a 1 ?_
    refine At.done rfl ?_
    refine AW.r ?_
    refine At.a 2 ?_
    refine At.c (laws_markRaft_spec  ((stands aR).1) 1 (by exact hzp) (by omega)) Try.call13 true [(1660, 0), (1661, 1), (1662, 2), (1663, 3)] [] [] trivial ?_
    refine At.a 1 ?_
    refine At.done rfl ?_
    refine AW.r ?_
    refine At.a 2 ?_
    refine At.c (laws_markRecS_spec  ((stands aR).2.1) (raftEnd ((stands aR).1) 1) (by omega) (by omega) (by omega)) Try.call21 true [(1664, 0)] [] [] trivial ?_
    refine At.a 1 ?_
    refine At.done rfl ?_
    refine AW.r ?_
    refine At.a 2 ?_
    refine At.c (laws_markOutS_spec  ((stands aR).2.2) (ends nxR ((stands aR).2.1) (raftEnd ((stands aR).1) 1)) (by omega) (by have := hfew.1; omega) (by omega) (fun o ho => by have := hfew.2 o ho; omega)) Try.call14 true [(1665, 0)] [] [] trivial ?_
    refine At.a 1 ?_
    refine At.done rfl ?_
    refine AW.r ?_
    refine At.a 1 ?_
    refine At.done rfl ?_
    refine AW.r ?_
    refine At.a 2 ?_
    refine At.c (laws_heldRaft_spec  (⟨((stands aR).1).id, ((stands aR).1).of_, ((stands aR).1).role, ((stands aR).1).commit, ⟨((stands aR).1).hard.term, ((stands aR).1).hard.vote, (raftMark ((stands aR).1) 1).hard.log⟩, (raftMark ((stands aR).1) 1).yes, (raftMark ((stands aR).1) 1).next, (raftMark ((stands aR).1) 1).match_⟩ : Raft) 1 (raftMark_small hzp 1) (by omega)) Try.call22 false [] [] [(1660, 6, (((raftMark ((stands aR).1) 1).hard.log).map encEnt)), (1661, 1, (((raftMark ((stands aR).1) 1).yes).map encI)), (1662, 1, (((raftMark ((stands aR).1) 1).next).map encI)), (1663, 1, (((raftMark ((stands aR).1) 1).match_).map encI))] ⟨rfl, ⟨88, (((raftMark ((stands aR).1) 1).hard.log).map encEnt), by kernel_rfl, FrzIs.same (allP_encEnt _)⟩, rfl, ⟨3, (((raftMark ((stands aR).1) 1).yes).map encI), by kernel_rfl, FrzIs.same (allP_encI _)⟩, rfl, ⟨3, (((raftMark ((stands aR).1) 1).next).map encI), by kernel_rfl, FrzIs.same (allP_encI _)⟩, rfl, ⟨3, (((raftMark ((stands aR).1) 1).match_).map encI), by kernel_rfl, FrzIs.same (allP_encI _)⟩, trivial⟩ ?_
    refine At.say 92 (.int .i64 (heldRaft (⟨((stands aR).1).id, ((stands aR).1).of_, ((stands aR).1).role, ((stands aR).1).commit, ⟨((stands aR).1).hard.term, ((stands aR).1).hard.vote, (raftMark ((stands aR).1) 1).hard.log⟩, (raftMark ((stands aR).1) 1).yes, (raftMark ((stands aR).1) 1).next, (raftMark ((stands aR).1) 1).match_⟩ : Raft) 1)) (.int .i64 (raftEnd ((stands aR).1) 1)) (by kernel_rfl) (congrArg (V.int .i64) (held_raft ((stands aR).1) 1 (by omega))) ?_
    refine At.a 1 ?_
    refine At.done rfl ?_
    refine AW.seq ?_
    refine AW.r ?_
    refine At.a 2 ?_
    refine At.done rfl ?_
    refine AW.condF (decide ((raftEnd ((stands aR).1) 1) < 0)) (by kernel_rfl) (decide_eq_false (by have := hke; omega)) ?_
    refine AW.skip ?_
    refine AW.r ?_
    refine At.a 2 ?_
    refine At.c (laws_heldRecS_spec  (marks markR nxR ((stands aR).2.1) (raftEnd ((stands aR).1) 1)) (raftEnd ((stands aR).1) 1) (by rw [marks_len]; omega) (by rw [marks_len]; omega)) Try.call23 false [] [] [(1664, 10, ((marks markR nxR ((stands aR).2.1) (raftEnd ((stands aR).1) 1)).map encRec))] ⟨rfl, ⟨93, ((marks markR nxR ((stands aR).2.1) (raftEnd ((stands aR).1) 1)).map encRec), by kernel_rfl, FrzIs.same (allP_encRec _)⟩, trivial⟩ ?_
    refine At.say 97 (.int .i64 (held okR nxR (marks markR nxR ((stands aR).2.1) (raftEnd ((stands aR).1) 1)) (raftEnd ((stands aR).1) 1))) (.int .i64 (ends nxR ((stands aR).2.1) (raftEnd ((stands aR).1) 1))) (by kernel_rfl) (congrArg (V.int .i64) (held_recs _ _ (by omega))) ?_
    refine At.a 1 ?_
    refine At.done rfl ?_
    refine AW.seq ?_
    refine AW.r ?_
    refine At.a 2 ?_
    refine At.done rfl ?_
    refine AW.condF (decide ((ends nxR ((stands aR).2.1) (raftEnd ((stands aR).1) 1)) < 0)) (by kernel_rfl) (decide_eq_false (by omega)) ?_
    refine AW.skip ?_
    refine AW.r ?_
    refine At.a 2 ?_
    refine At.c (laws_heldOutS_spec  (marks markO nxO ((stands aR).2.2) (ends nxR ((stands aR).2.1) (raftEnd ((stands aR).1) 1))) (ends nxR ((stands aR).2.1) (raftEnd ((stands aR).1) 1)) hmf (by omega)) Try.call15 false [] [] [(1665, 17, ((marks markO nxO ((stands aR).2.2) (ends nxR ((stands aR).2.1) (raftEnd ((stands aR).1) 1))).map encOutV))] ⟨rfl, ⟨76, ((marks markO nxO ((stands aR).2.2) (ends nxR ((stands aR).2.1) (raftEnd ((stands aR).1) 1))).map encOut), by kernel_rfl, frzOut _⟩, trivial⟩ ?_
    refine At.say 102 (.int .i64 (heldO (marks markO nxO ((stands aR).2.2) (ends nxR ((stands aR).2.1) (raftEnd ((stands aR).1) 1))) (ends nxR ((stands aR).2.1) (raftEnd ((stands aR).1) 1)))) (.int .i64 (ends nxO ((stands aR).2.2) (ends nxR ((stands aR).2.1) (raftEnd ((stands aR).1) 1)))) (by kernel_rfl) (congrArg (V.int .i64) (held_outs _ _ (by omega))) ?_
    refine At.a 1 ?_
    refine At.done rfl ?_
    refine AW.seq ?_
    refine AW.r ?_
    refine At.a 2 ?_
    refine At.done rfl ?_
    refine AW.condF (decide ((ends nxO ((stands aR).2.2) (ends nxR ((stands aR).2.1) (raftEnd ((stands aR).1) 1))) < 0)) (by kernel_rfl) (decide_eq_false (by omega)) ?_
    refine AW.skip ?_
    refine AW.seq ?_
    refine AW.r ?_
    refine At.a 3 ?_
    refine At.done rfl ?_
    refine AW.condF ((ends nxO ((stands aR).2.2) (ends nxR ((stands aR).2.1) (raftEnd ((stands aR).1) 1))) != (ends nxO ((stands aR).2.2) (ends nxR ((stands aR).2.1) (raftEnd ((stands aR).1) 1)))) (by kernel_rfl) (by simp) ?_
    refine AW.skip ?_
    refine AW.r ?_
    refine At.a 1 ?_
    refine At.c (laws_toRaft_spec  aR hz) Try.call9 true [] [(3200, 0), (3201, 1), (3202, 2), (3203, 3)] [] trivial ?_
    refine At.c (impl_RaftStand_spec  aR hz) Try.call25 false [] [(3220, 0), (3221, 1), (3222, 2), (3223, 3), (3224, 4), (3225, 5)] [(3200, 6, (aR.hard.log.map encEnt)), (3201, 1, (aR.yes.map encI)), (3202, 1, (aR.next.map encI)), (3203, 1, (aR.match_.map encI))] ⟨rfl, ⟨88, (aR.hard.log.map encEnt), by kernel_rfl, FrzIs.same (allP_encEnt _)⟩, rfl, ⟨3, (aR.yes.map encI), by kernel_rfl, FrzIs.same (allP_encI _)⟩, rfl, ⟨3, (aR.next.map encI), by kernel_rfl, FrzIs.same (allP_encI _)⟩, rfl, ⟨3, (aR.match_.map encI), by kernel_rfl, FrzIs.same (allP_encI _)⟩, trivial⟩ ?_
    refine At.a 8 ?_
    refine At.done rfl ?_
    refine AW.seq ?_
    refine AW.r ?_
    refine At.a 2 ?_
    refine At.c (laws_eqRaft_spec  ((stands aR).1) ((stands aR).1) (by exact hzp) (by exact hzp)) Try.call12 false [] [] [(3220, 6, ((((stands aR).1).hard.log).map encEnt)), (3221, 1, ((((stands aR).1).yes).map encI)), (3222, 1, ((((stands aR).1).next).map encI)), (3223, 1, ((((stands aR).1).match_).map encI)), (1500, 6, ((((stands aR).1).hard.log).map encEnt)), (1501, 1, ((((stands aR).1).yes).map encI)), (1502, 1, ((((stands aR).1).next).map encI)), (1503, 1, ((((stands aR).1).match_).map encI))] ⟨rfl, ⟨88, ((((stands aR).1).hard.log).map encEnt), by kernel_rfl, FrzIs.same (allP_encEnt _)⟩, rfl, ⟨3, ((((stands aR).1).yes).map encI), by kernel_rfl, FrzIs.same (allP_encI _)⟩, rfl, ⟨3, ((((stands aR).1).next).map encI), by kernel_rfl, FrzIs.same (allP_encI _)⟩, rfl, ⟨3, ((((stands aR).1).match_).map encI), by kernel_rfl, FrzIs.same (allP_encI _)⟩, rfl, ⟨88, ((((stands aR).1).hard.log).map encEnt), by kernel_rfl, FrzIs.same (allP_encEnt _)⟩, rfl, ⟨3, ((((stands aR).1).yes).map encI), by kernel_rfl, FrzIs.same (allP_encI _)⟩, rfl, ⟨3, ((((stands aR).1).next).map encI), by kernel_rfl, FrzIs.same (allP_encI _)⟩, rfl, ⟨3, ((((stands aR).1).match_).map encI), by kernel_rfl, FrzIs.same (allP_encI _)⟩, trivial⟩ ?_
    refine At.a 2 ?_
    refine At.sB 119 (!(raftEq ((stands aR).1) ((stands aR).1))) false (sayB (by rw [show (raftEq ((stands aR).1) ((stands aR).1)) = true from (raftEq_refl _)]; rfl)) ?_
    refine At.a 2 ?_
    refine At.c (laws_eqRecS_spec  ((stands aR).2.1) ((stands aR).2.1) (by omega) (by omega)) Try.call20 false [] [] [(3224, 10, (((stands aR).2.1).map encRec)), (1504, 10, (((stands aR).2.1).map encRec))] ⟨rfl, ⟨93, (((stands aR).2.1).map encRec), by kernel_rfl, FrzIs.same (allP_encRec _)⟩, rfl, ⟨93, (((stands aR).2.1).map encRec), by kernel_rfl, FrzIs.same (allP_encRec _)⟩, trivial⟩ ?_
    refine At.a 3 ?_
    refine At.sB 125 (!(listEq recEq ((stands aR).2.1) ((stands aR).2.1))) false (sayB (by rw [show (listEq recEq ((stands aR).2.1) ((stands aR).2.1)) = true from (listEq_refl recEq_refl _)]; rfl)) ?_
    refine At.a 2 ?_
    refine At.c (laws_eqOutS_spec  ((stands aR).2.2) ((stands aR).2.2) (by have := hfew.1; omega) (by have := hfew.1; omega) (fun o ho => by have := hfew.2 o ho; omega) (fun o ho => by have := hfew.2 o ho; omega)) Try.call11 false [] [] [(3225, 17, (((stands aR).2.2).map encOutV)), (1505, 17, (((stands aR).2.2).map encOutV))] ⟨rfl, ⟨76, (((stands aR).2.2).map encOut), by kernel_rfl, frzOut _⟩, rfl, ⟨76, (((stands aR).2.2).map encOut), by kernel_rfl, frzOut _⟩, trivial⟩ ?_
    refine At.a 2 ?_
    refine At.done rfl ?_
    refine AW.condF (!(listEq outEq ((stands aR).2.2) ((stands aR).2.2))) (by kernel_rfl) (by rw [show (listEq outEq ((stands aR).2.2) ((stands aR).2.2)) = true from (listEq_refl outEq_refl _)]; rfl) ?_
    refine AW.skip ?_
    refine AW.r ?_
    refine At.a 1 ?_
    refine At.done rfl ?_
    refine AW.r ?_
    refine At.a 2 ?_
    refine At.c (laws_heldRaft_spec  (⟨((stands aR).1).id, ((stands aR).1).of_, ((stands aR).1).role, ((stands aR).1).commit, ⟨((stands aR).1).hard.term, ((stands aR).1).hard.vote, (raftMark ((stands aR).1) 1).hard.log⟩, (raftMark ((stands aR).1) 1).yes, (raftMark ((stands aR).1) 1).next, (raftMark ((stands aR).1) 1).match_⟩ : Raft) 1 (raftMark_small hzp 1) (by omega)) Try.call22 false [] [] [(1660, 6, (((raftMark ((stands aR).1) 1).hard.log).map encEnt)), (1661, 1, (((raftMark ((stands aR).1) 1).yes).map encI)), (1662, 1, (((raftMark ((stands aR).1) 1).next).map encI)), (1663, 1, (((raftMark ((stands aR).1) 1).match_).map encI))] ⟨rfl, ⟨88, (((raftMark ((stands aR).1) 1).hard.log).map encEnt), by kernel_rfl, FrzIs.same (allP_encEnt _)⟩, rfl, ⟨3, (((raftMark ((stands aR).1) 1).yes).map encI), by kernel_rfl, FrzIs.same (allP_encI _)⟩, rfl, ⟨3, (((raftMark ((stands aR).1) 1).next).map encI), by kernel_rfl, FrzIs.same (allP_encI _)⟩, rfl, ⟨3, (((raftMark ((stands aR).1) 1).match_).map encI), by kernel_rfl, FrzIs.same (allP_encI _)⟩, trivial⟩ ?_
    refine At.say 133 (.int .i64 (heldRaft (⟨((stands aR).1).id, ((stands aR).1).of_, ((stands aR).1).role, ((stands aR).1).commit, ⟨((stands aR).1).hard.term, ((stands aR).1).hard.vote, (raftMark ((stands aR).1) 1).hard.log⟩, (raftMark ((stands aR).1) 1).yes, (raftMark ((stands aR).1) 1).next, (raftMark ((stands aR).1) 1).match_⟩ : Raft) 1)) (.int .i64 (raftEnd ((stands aR).1) 1)) (by kernel_rfl) (congrArg (V.int .i64) (held_raft ((stands aR).1) 1 (by omega))) ?_
    refine At.a 1 ?_
    refine At.done rfl ?_
    refine AW.seq ?_
    refine AW.r ?_
    refine At.a 2 ?_
    refine At.done rfl ?_
    refine AW.condF (decide ((raftEnd ((stands aR).1) 1) < 0)) (by kernel_rfl) (decide_eq_false (by have := hke; omega)) ?_
    refine AW.skip ?_
    refine AW.r ?_
    refine At.a 2 ?_
    refine At.c (laws_heldRecS_spec  (marks markR nxR ((stands aR).2.1) (raftEnd ((stands aR).1) 1)) (raftEnd ((stands aR).1) 1) (by rw [marks_len]; omega) (by rw [marks_len]; omega)) Try.call23 false [] [] [(1664, 10, ((marks markR nxR ((stands aR).2.1) (raftEnd ((stands aR).1) 1)).map encRec))] ⟨rfl, ⟨93, ((marks markR nxR ((stands aR).2.1) (raftEnd ((stands aR).1) 1)).map encRec), by kernel_rfl, FrzIs.same (allP_encRec _)⟩, trivial⟩ ?_
    refine At.say 138 (.int .i64 (held okR nxR (marks markR nxR ((stands aR).2.1) (raftEnd ((stands aR).1) 1)) (raftEnd ((stands aR).1) 1))) (.int .i64 (ends nxR ((stands aR).2.1) (raftEnd ((stands aR).1) 1))) (by kernel_rfl) (congrArg (V.int .i64) (held_recs _ _ (by omega))) ?_
    refine At.a 1 ?_
    refine At.done rfl ?_
    refine AW.seq ?_
    refine AW.r ?_
    refine At.a 2 ?_
    refine At.done rfl ?_
    refine AW.condF (decide ((ends nxR ((stands aR).2.1) (raftEnd ((stands aR).1) 1)) < 0)) (by kernel_rfl) (decide_eq_false (by omega)) ?_
    refine AW.skip ?_
    refine AW.r ?_
    refine At.a 2 ?_
    refine At.c (laws_heldOutS_spec  (marks markO nxO ((stands aR).2.2) (ends nxR ((stands aR).2.1) (raftEnd ((stands aR).1) 1))) (ends nxR ((stands aR).2.1) (raftEnd ((stands aR).1) 1)) hmf (by omega)) Try.call15 false [] [] [(1665, 17, ((marks markO nxO ((stands aR).2.2) (ends nxR ((stands aR).2.1) (raftEnd ((stands aR).1) 1))).map encOutV))] ⟨rfl, ⟨76, ((marks markO nxO ((stands aR).2.2) (ends nxR ((stands aR).2.1) (raftEnd ((stands aR).1) 1))).map encOut), by kernel_rfl, frzOut _⟩, trivial⟩ ?_
    refine At.say 143 (.int .i64 (heldO (marks markO nxO ((stands aR).2.2) (ends nxR ((stands aR).2.1) (raftEnd ((stands aR).1) 1))) (ends nxR ((stands aR).2.1) (raftEnd ((stands aR).1) 1)))) (.int .i64 (ends nxO ((stands aR).2.2) (ends nxR ((stands aR).2.1) (raftEnd ((stands aR).1) 1)))) (by kernel_rfl) (congrArg (V.int .i64) (held_outs _ _ (by omega))) ?_
    refine At.a 1 ?_
    refine At.done rfl ?_
    refine AW.seq ?_
    refine AW.r ?_
    refine At.a 2 ?_
    refine At.done rfl ?_
    refine AW.condF (decide ((ends nxO ((stands aR).2.2) (ends nxR ((stands aR).2.1) (raftEnd ((stands aR).1) 1))) < 0)) (by kernel_rfl) (decide_eq_false (by omega)) ?_
    refine AW.skip ?_
    refine AW.seq ?_
    refine AW.r ?_
    refine At.a 3 ?_
    refine At.done rfl ?_
    refine AW.condF ((ends nxO ((stands aR).2.2) (ends nxR ((stands aR).2.1) (raftEnd ((stands aR).1) 1))) != (ends nxO ((stands aR).2.2) (ends nxR ((stands aR).2.1) (raftEnd ((stands aR).1) 1)))) (by kernel_rfl) (by simp) ?_
    refine AW.skip ?_
    refine AW.r ?_
    refine At.a 1 ?_
    refine At.done rfl ?_
    refine AW.ret ?_
    refine ⟨_, Sub.refl _ _, ?_⟩
    exact KF.m [] [.bool true]
end Go.Proofs.Ytlmadhahghiedaa
