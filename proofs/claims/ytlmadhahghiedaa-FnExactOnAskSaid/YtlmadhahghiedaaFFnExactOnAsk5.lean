/- The contracts of the functions that FnExactOnAsk reaches (each: what it answers, said over values), printed by a program of this session (wip/sy/g/gen.py). -/
import Derived.Test.YtlmadhahghiedaaFFnExactOnAsk4
set_option linter.unusedVariables false
set_option linter.unusedSimpArgs false
namespace Go.Proofs.Ytlmadhahghiedaa
open Go Go.Sy Go.Proofs
set_option maxRecDepth 100000 in
set_option maxHeartbeats 4000000 in
theorem laws_markOutS_spec  (a : List Out) (k : Int) (hk : 0 ≤ k) (ha : a.length ≤ 1048576) (he : ends nxO a k ≤ 4611686018427387904) (hea : ∀ o ∈ a, o.msg.entries.length ≤ 1048576) : FnSpec Try.prog 14 [.ref 0, .int .i64 k] [.arr 76 17 (a.map encOut)] (.int .i64 (ends nxO a k)) [.arr 76 17 ((marks markO nxO a k).map encOut)] := by
  refine FnSpec.of 157 Try.func14 rfl Try.ntmps14 (by simp) (AW.weakK ?_)
  refine AW.r ?_
  refine At.a 1 ?_
  refine At.done rfl ?_
  refine AW.seq ?_
  refine AW.r ?_
  refine At.a 1 ?_
  refine At.done rfl ?_
  refine AW.block ?_
  refine AW.loopW (fun (x : Nat × Int × List Out) => match x with | (i, kk, o) => Go.Sy.mk [.ref 0, .int .i64 kk, .un, .un, .un, .int .i64 (i : Int)] [(0, .arr 76 17 (o.map encOut))]) (fun (x : Nat × Int × List Out) => match x with | (i, kk, o) => 0 ≤ kk ∧ MInv markO nxO a k i kk o) (fun (x : Nat × Int × List Out) => match x with | (i, kk, o) => a.length - i) (0, k, a) ⟨hk, MInv.start⟩ (Sub.o [(0, 0)] [true, true, false, false, false, true]) ?_
  rintro ⟨i, kk, o⟩ ⟨hkk, hR⟩
  have hle := hR.ge nxO_ge
  have hlo := hR.2.1
  refine AW.seq ?_
  refine AW.r ?_
  refine At.a 3 ?_
  refine At.sL 8 encOut o ?_
  refine At.a 1 ?_
  refine At.done rfl ?_
  refine AW.cD ((i : Int) < (o.length : Int)) (fun h1 => ?_) (fun h1 => ?_)
  · skip
    refine AW.skip ?_
    refine AW.seq ?_
    refine AW.block ?_
    refine AW.r ?_
    refine At.a 3 ?_
    refine At.iRf 29 15 (.tmp 12) (.tmp 13) 0 (o.map encOut) .i64 (i : Int) 76 17 (by omega) (by simp only [List.length_map, List.length_append, List.length_take, List.length_drop, List.length_replicate, List.length_set, List.length_cons, List.length_nil]; omega) ?_
    refine At.a 1 ?_
    refine Exists.elim (show ∃ e, o[i]? = some e from ⟨_, List.getElem?_eq_getElem (by omega)⟩) fun e1 he1 => ?_
    have hlt := hR.le nxO_ge he1
    have hge := ends_ge nxE_ge e1.msg.entries (kk + 16)
    rw [nxO] at hlt
    have hen := hea _ (List.mem_of_getElem? (hR.get he1))
    refine At.sEl 3 0 76 17 i 0 (.tmp 16) (.tmp 14) (o.map encOut) ((o.set i (⟨kk, e1.msg⟩ : Out)).map encOut) [.int .i64 kk] (.int .i64 kk) (encOut e1) (encOut (⟨kk, e1.msg⟩ : Out)) (mapGet he1) setV ?_
    refine At.done rfl ?_
    refine AW.r ?_
    refine At.a 2 ?_
    refine At.sI 18 (kk + 1) (by omega) ?_
    refine At.a 1 ?_
    refine At.done rfl ?_
    refine AW.r ?_
    refine At.a 3 ?_
    refine At.iRf 29 22 (.tmp 19) (.tmp 20) 0 ((o.set i (⟨kk, e1.msg⟩ : Out)).map encOut) .i64 (i : Int) 76 17 (by omega) (by simp only [List.length_map, List.length_append, List.length_take, List.length_drop, List.length_replicate, List.length_set, List.length_cons, List.length_nil]; omega) ?_
    refine At.a 2 ?_
    refine At.sEl 3 0 76 17 i 1 (.tmp 24) (.tmp 21) ((o.set i (⟨kk, e1.msg⟩ : Out)).map encOut) ((o.set i (⟨kk, ⟨kk + 1, e1.msg.from_, e1.msg.term, e1.msg.at_, e1.msg.atTerm, e1.msg.commit, e1.msg.yes, e1.msg.release, e1.msg.part, e1.msg.bytes, ⟨e1.msg.cmd.kind, e1.msg.cmd.release, e1.msg.cmd.node, e1.msg.cmd.size, e1.msg.cmd.digest⟩, e1.msg.entries⟩⟩ : Out)).map encOut) [.int .i64 (kk + 1)] (.int .i64 (kk + 1)) (encOut (⟨kk, e1.msg⟩ : Out)) (encOut (⟨kk, ⟨kk + 1, e1.msg.from_, e1.msg.term, e1.msg.at_, e1.msg.atTerm, e1.msg.commit, e1.msg.yes, e1.msg.release, e1.msg.part, e1.msg.bytes, ⟨e1.msg.cmd.kind, e1.msg.cmd.release, e1.msg.cmd.node, e1.msg.cmd.size, e1.msg.cmd.digest⟩, e1.msg.entries⟩⟩ : Out)) (mapGet (setGet he1)) setSetV ?_
    refine At.done rfl ?_
    refine AW.r ?_
    refine At.a 2 ?_
    refine At.sJ 26 ((kk + 1) + 1) (kk + 2) (by omega) (by omega) ?_
    refine At.a 1 ?_
    refine At.done rfl ?_
    refine AW.r ?_
    refine At.a 3 ?_
    refine At.iRf 29 30 (.tmp 27) (.tmp 28) 0 ((o.set i (⟨kk, ⟨kk + 1, e1.msg.from_, e1.msg.term, e1.msg.at_, e1.msg.atTerm, e1.msg.commit, e1.msg.yes, e1.msg.release, e1.msg.part, e1.msg.bytes, ⟨e1.msg.cmd.kind, e1.msg.cmd.release, e1.msg.cmd.node, e1.msg.cmd.size, e1.msg.cmd.digest⟩, e1.msg.entries⟩⟩ : Out)).map encOut) .i64 (i : Int) 76 17 (by omega) (by simp only [List.length_map, List.length_append, List.length_take, List.length_drop, List.length_replicate, List.length_set, List.length_cons, List.length_nil]; omega) ?_
    refine At.a 2 ?_
    refine At.sEl 3 0 76 17 i 2 (.tmp 32) (.tmp 29) ((o.set i (⟨kk, ⟨kk + 1, e1.msg.from_, e1.msg.term, e1.msg.at_, e1.msg.atTerm, e1.msg.commit, e1.msg.yes, e1.msg.release, e1.msg.part, e1.msg.bytes, ⟨e1.msg.cmd.kind, e1.msg.cmd.release, e1.msg.cmd.node, e1.msg.cmd.size, e1.msg.cmd.digest⟩, e1.msg.entries⟩⟩ : Out)).map encOut) ((o.set i (⟨kk, ⟨kk + 1, kk + 2, e1.msg.term, e1.msg.at_, e1.msg.atTerm, e1.msg.commit, e1.msg.yes, e1.msg.release, e1.msg.part, e1.msg.bytes, ⟨e1.msg.cmd.kind, e1.msg.cmd.release, e1.msg.cmd.node, e1.msg.cmd.size, e1.msg.cmd.digest⟩, e1.msg.entries⟩⟩ : Out)).map encOut) [.int .i64 (kk + 2)] (.int .i64 (kk + 2)) (encOut (⟨kk, ⟨kk + 1, e1.msg.from_, e1.msg.term, e1.msg.at_, e1.msg.atTerm, e1.msg.commit, e1.msg.yes, e1.msg.release, e1.msg.part, e1.msg.bytes, ⟨e1.msg.cmd.kind, e1.msg.cmd.release, e1.msg.cmd.node, e1.msg.cmd.size, e1.msg.cmd.digest⟩, e1.msg.entries⟩⟩ : Out)) (encOut (⟨kk, ⟨kk + 1, kk + 2, e1.msg.term, e1.msg.at_, e1.msg.atTerm, e1.msg.commit, e1.msg.yes, e1.msg.release, e1.msg.part, e1.msg.bytes, ⟨e1.msg.cmd.kind, e1.msg.cmd.release, e1.msg.cmd.node, e1.msg.cmd.size, e1.msg.cmd.digest⟩, e1.msg.entries⟩⟩ : Out)) (mapGet (setGet he1)) setSetV ?_
    refine At.done rfl ?_
    refine AW.r ?_
    refine At.a 2 ?_
    refine At.sJ 34 ((kk + 2) + 1) (kk + 3) (by omega) (by omega) ?_
    refine At.a 1 ?_
    refine At.done rfl ?_
    refine AW.r ?_
    refine At.a 3 ?_
    refine At.iRf 29 38 (.tmp 35) (.tmp 36) 0 ((o.set i (⟨kk, ⟨kk + 1, kk + 2, e1.msg.term, e1.msg.at_, e1.msg.atTerm, e1.msg.commit, e1.msg.yes, e1.msg.release, e1.msg.part, e1.msg.bytes, ⟨e1.msg.cmd.kind, e1.msg.cmd.release, e1.msg.cmd.node, e1.msg.cmd.size, e1.msg.cmd.digest⟩, e1.msg.entries⟩⟩ : Out)).map encOut) .i64 (i : Int) 76 17 (by omega) (by simp only [List.length_map, List.length_append, List.length_take, List.length_drop, List.length_replicate, List.length_set, List.length_cons, List.length_nil]; omega) ?_
    refine At.a 2 ?_
    refine At.sEl 3 0 76 17 i 3 (.tmp 40) (.tmp 37) ((o.set i (⟨kk, ⟨kk + 1, kk + 2, e1.msg.term, e1.msg.at_, e1.msg.atTerm, e1.msg.commit, e1.msg.yes, e1.msg.release, e1.msg.part, e1.msg.bytes, ⟨e1.msg.cmd.kind, e1.msg.cmd.release, e1.msg.cmd.node, e1.msg.cmd.size, e1.msg.cmd.digest⟩, e1.msg.entries⟩⟩ : Out)).map encOut) ((o.set i (⟨kk, ⟨kk + 1, kk + 2, kk + 3, e1.msg.at_, e1.msg.atTerm, e1.msg.commit, e1.msg.yes, e1.msg.release, e1.msg.part, e1.msg.bytes, ⟨e1.msg.cmd.kind, e1.msg.cmd.release, e1.msg.cmd.node, e1.msg.cmd.size, e1.msg.cmd.digest⟩, e1.msg.entries⟩⟩ : Out)).map encOut) [.int .i64 (kk + 3)] (.int .i64 (kk + 3)) (encOut (⟨kk, ⟨kk + 1, kk + 2, e1.msg.term, e1.msg.at_, e1.msg.atTerm, e1.msg.commit, e1.msg.yes, e1.msg.release, e1.msg.part, e1.msg.bytes, ⟨e1.msg.cmd.kind, e1.msg.cmd.release, e1.msg.cmd.node, e1.msg.cmd.size, e1.msg.cmd.digest⟩, e1.msg.entries⟩⟩ : Out)) (encOut (⟨kk, ⟨kk + 1, kk + 2, kk + 3, e1.msg.at_, e1.msg.atTerm, e1.msg.commit, e1.msg.yes, e1.msg.release, e1.msg.part, e1.msg.bytes, ⟨e1.msg.cmd.kind, e1.msg.cmd.release, e1.msg.cmd.node, e1.msg.cmd.size, e1.msg.cmd.digest⟩, e1.msg.entries⟩⟩ : Out)) (mapGet (setGet he1)) setSetV ?_
    refine At.done rfl ?_
    refine AW.r ?_
    refine At.a 2 ?_
    refine At.sJ 42 ((kk + 3) + 1) (kk + 4) (by omega) (by omega) ?_
    refine At.a 1 ?_
    refine At.done rfl ?_
    refine AW.r ?_
    refine At.a 3 ?_
    refine At.iRf 29 46 (.tmp 43) (.tmp 44) 0 ((o.set i (⟨kk, ⟨kk + 1, kk + 2, kk + 3, e1.msg.at_, e1.msg.atTerm, e1.msg.commit, e1.msg.yes, e1.msg.release, e1.msg.part, e1.msg.bytes, ⟨e1.msg.cmd.kind, e1.msg.cmd.release, e1.msg.cmd.node, e1.msg.cmd.size, e1.msg.cmd.digest⟩, e1.msg.entries⟩⟩ : Out)).map encOut) .i64 (i : Int) 76 17 (by omega) (by simp only [List.length_map, List.length_append, List.length_take, List.length_drop, List.length_replicate, List.length_set, List.length_cons, List.length_nil]; omega) ?_
    refine At.a 2 ?_
    refine At.sEl 3 0 76 17 i 4 (.tmp 48) (.tmp 45) ((o.set i (⟨kk, ⟨kk + 1, kk + 2, kk + 3, e1.msg.at_, e1.msg.atTerm, e1.msg.commit, e1.msg.yes, e1.msg.release, e1.msg.part, e1.msg.bytes, ⟨e1.msg.cmd.kind, e1.msg.cmd.release, e1.msg.cmd.node, e1.msg.cmd.size, e1.msg.cmd.digest⟩, e1.msg.entries⟩⟩ : Out)).map encOut) ((o.set i (⟨kk, ⟨kk + 1, kk + 2, kk + 3, kk + 4, e1.msg.atTerm, e1.msg.commit, e1.msg.yes, e1.msg.release, e1.msg.part, e1.msg.bytes, ⟨e1.msg.cmd.kind, e1.msg.cmd.release, e1.msg.cmd.node, e1.msg.cmd.size, e1.msg.cmd.digest⟩, e1.msg.entries⟩⟩ : Out)).map encOut) [.int .i64 (kk + 4)] (.int .i64 (kk + 4)) (encOut (⟨kk, ⟨kk + 1, kk + 2, kk + 3, e1.msg.at_, e1.msg.atTerm, e1.msg.commit, e1.msg.yes, e1.msg.release, e1.msg.part, e1.msg.bytes, ⟨e1.msg.cmd.kind, e1.msg.cmd.release, e1.msg.cmd.node, e1.msg.cmd.size, e1.msg.cmd.digest⟩, e1.msg.entries⟩⟩ : Out)) (encOut (⟨kk, ⟨kk + 1, kk + 2, kk + 3, kk + 4, e1.msg.atTerm, e1.msg.commit, e1.msg.yes, e1.msg.release, e1.msg.part, e1.msg.bytes, ⟨e1.msg.cmd.kind, e1.msg.cmd.release, e1.msg.cmd.node, e1.msg.cmd.size, e1.msg.cmd.digest⟩, e1.msg.entries⟩⟩ : Out)) (mapGet (setGet he1)) setSetV ?_
    refine At.done rfl ?_
    refine AW.r ?_
    refine At.a 2 ?_
    refine At.sJ 50 ((kk + 4) + 1) (kk + 5) (by omega) (by omega) ?_
    refine At.a 1 ?_
    refine At.done rfl ?_
    refine AW.r ?_
    refine At.a 3 ?_
    refine At.iRf 29 54 (.tmp 51) (.tmp 52) 0 ((o.set i (⟨kk, ⟨kk + 1, kk + 2, kk + 3, kk + 4, e1.msg.atTerm, e1.msg.commit, e1.msg.yes, e1.msg.release, e1.msg.part, e1.msg.bytes, ⟨e1.msg.cmd.kind, e1.msg.cmd.release, e1.msg.cmd.node, e1.msg.cmd.size, e1.msg.cmd.digest⟩, e1.msg.entries⟩⟩ : Out)).map encOut) .i64 (i : Int) 76 17 (by omega) (by simp only [List.length_map, List.length_append, List.length_take, List.length_drop, List.length_replicate, List.length_set, List.length_cons, List.length_nil]; omega) ?_
    refine At.a 2 ?_
    refine At.sEl 3 0 76 17 i 5 (.tmp 56) (.tmp 53) ((o.set i (⟨kk, ⟨kk + 1, kk + 2, kk + 3, kk + 4, e1.msg.atTerm, e1.msg.commit, e1.msg.yes, e1.msg.release, e1.msg.part, e1.msg.bytes, ⟨e1.msg.cmd.kind, e1.msg.cmd.release, e1.msg.cmd.node, e1.msg.cmd.size, e1.msg.cmd.digest⟩, e1.msg.entries⟩⟩ : Out)).map encOut) ((o.set i (⟨kk, ⟨kk + 1, kk + 2, kk + 3, kk + 4, kk + 5, e1.msg.commit, e1.msg.yes, e1.msg.release, e1.msg.part, e1.msg.bytes, ⟨e1.msg.cmd.kind, e1.msg.cmd.release, e1.msg.cmd.node, e1.msg.cmd.size, e1.msg.cmd.digest⟩, e1.msg.entries⟩⟩ : Out)).map encOut) [.int .i64 (kk + 5)] (.int .i64 (kk + 5)) (encOut (⟨kk, ⟨kk + 1, kk + 2, kk + 3, kk + 4, e1.msg.atTerm, e1.msg.commit, e1.msg.yes, e1.msg.release, e1.msg.part, e1.msg.bytes, ⟨e1.msg.cmd.kind, e1.msg.cmd.release, e1.msg.cmd.node, e1.msg.cmd.size, e1.msg.cmd.digest⟩, e1.msg.entries⟩⟩ : Out)) (encOut (⟨kk, ⟨kk + 1, kk + 2, kk + 3, kk + 4, kk + 5, e1.msg.commit, e1.msg.yes, e1.msg.release, e1.msg.part, e1.msg.bytes, ⟨e1.msg.cmd.kind, e1.msg.cmd.release, e1.msg.cmd.node, e1.msg.cmd.size, e1.msg.cmd.digest⟩, e1.msg.entries⟩⟩ : Out)) (mapGet (setGet he1)) setSetV ?_
    refine At.done rfl ?_
    refine AW.r ?_
    refine At.a 2 ?_
    refine At.sJ 58 ((kk + 5) + 1) (kk + 6) (by omega) (by omega) ?_
    refine At.a 1 ?_
    refine At.done rfl ?_
    refine AW.r ?_
    refine At.a 3 ?_
    refine At.iRf 29 62 (.tmp 59) (.tmp 60) 0 ((o.set i (⟨kk, ⟨kk + 1, kk + 2, kk + 3, kk + 4, kk + 5, e1.msg.commit, e1.msg.yes, e1.msg.release, e1.msg.part, e1.msg.bytes, ⟨e1.msg.cmd.kind, e1.msg.cmd.release, e1.msg.cmd.node, e1.msg.cmd.size, e1.msg.cmd.digest⟩, e1.msg.entries⟩⟩ : Out)).map encOut) .i64 (i : Int) 76 17 (by omega) (by simp only [List.length_map, List.length_append, List.length_take, List.length_drop, List.length_replicate, List.length_set, List.length_cons, List.length_nil]; omega) ?_
    refine At.a 2 ?_
    refine At.sEl 3 0 76 17 i 6 (.tmp 64) (.tmp 61) ((o.set i (⟨kk, ⟨kk + 1, kk + 2, kk + 3, kk + 4, kk + 5, e1.msg.commit, e1.msg.yes, e1.msg.release, e1.msg.part, e1.msg.bytes, ⟨e1.msg.cmd.kind, e1.msg.cmd.release, e1.msg.cmd.node, e1.msg.cmd.size, e1.msg.cmd.digest⟩, e1.msg.entries⟩⟩ : Out)).map encOut) ((o.set i (⟨kk, ⟨kk + 1, kk + 2, kk + 3, kk + 4, kk + 5, kk + 6, e1.msg.yes, e1.msg.release, e1.msg.part, e1.msg.bytes, ⟨e1.msg.cmd.kind, e1.msg.cmd.release, e1.msg.cmd.node, e1.msg.cmd.size, e1.msg.cmd.digest⟩, e1.msg.entries⟩⟩ : Out)).map encOut) [.int .i64 (kk + 6)] (.int .i64 (kk + 6)) (encOut (⟨kk, ⟨kk + 1, kk + 2, kk + 3, kk + 4, kk + 5, e1.msg.commit, e1.msg.yes, e1.msg.release, e1.msg.part, e1.msg.bytes, ⟨e1.msg.cmd.kind, e1.msg.cmd.release, e1.msg.cmd.node, e1.msg.cmd.size, e1.msg.cmd.digest⟩, e1.msg.entries⟩⟩ : Out)) (encOut (⟨kk, ⟨kk + 1, kk + 2, kk + 3, kk + 4, kk + 5, kk + 6, e1.msg.yes, e1.msg.release, e1.msg.part, e1.msg.bytes, ⟨e1.msg.cmd.kind, e1.msg.cmd.release, e1.msg.cmd.node, e1.msg.cmd.size, e1.msg.cmd.digest⟩, e1.msg.entries⟩⟩ : Out)) (mapGet (setGet he1)) setSetV ?_
    refine At.done rfl ?_
    refine AW.r ?_
    refine At.a 2 ?_
    refine At.sJ 66 ((kk + 6) + 1) (kk + 7) (by omega) (by omega) ?_
    refine At.a 1 ?_
    refine At.done rfl ?_
    refine AW.r ?_
    refine At.a 3 ?_
    refine At.div (t := 3) (u := 3) (d := 70) (op := .rem) (x := .tmp 69) (y := .const (.int .i64 3)) (kd := .i64) (a := kk + 7) (b := 3) (by kernel_rfl) (by kernel_rfl) (by kernel_rfl) (by kernel_rfl) (by omega) (.int .i64 ((kk + 7).tmod 3)) (.inr ⟨rfl, rfl⟩) ?_
    refine At.say 70 (.int .i64 ((kk + 7).tmod 3)) (.int .i64 ((kk + 7) % 3)) (by kernel_rfl) (sayRem (by omega)) ?_
    refine At.a 1 ?_
    refine At.iRf 29 72 (.tmp 67) (.tmp 68) 0 ((o.set i (⟨kk, ⟨kk + 1, kk + 2, kk + 3, kk + 4, kk + 5, kk + 6, e1.msg.yes, e1.msg.release, e1.msg.part, e1.msg.bytes, ⟨e1.msg.cmd.kind, e1.msg.cmd.release, e1.msg.cmd.node, e1.msg.cmd.size, e1.msg.cmd.digest⟩, e1.msg.entries⟩⟩ : Out)).map encOut) .i64 (i : Int) 76 17 (by omega) (by simp only [List.length_map, List.length_append, List.length_take, List.length_drop, List.length_replicate, List.length_set, List.length_cons, List.length_nil]; omega) ?_
    refine At.a 2 ?_
    refine At.sEl 4 0 76 17 i 7 (.tmp 74) (.tmp 71) ((o.set i (⟨kk, ⟨kk + 1, kk + 2, kk + 3, kk + 4, kk + 5, kk + 6, e1.msg.yes, e1.msg.release, e1.msg.part, e1.msg.bytes, ⟨e1.msg.cmd.kind, e1.msg.cmd.release, e1.msg.cmd.node, e1.msg.cmd.size, e1.msg.cmd.digest⟩, e1.msg.entries⟩⟩ : Out)).map encOut) ((o.set i (⟨kk, ⟨kk + 1, kk + 2, kk + 3, kk + 4, kk + 5, kk + 6, ((kk + 7) % 3) == 0, e1.msg.release, e1.msg.part, e1.msg.bytes, ⟨e1.msg.cmd.kind, e1.msg.cmd.release, e1.msg.cmd.node, e1.msg.cmd.size, e1.msg.cmd.digest⟩, e1.msg.entries⟩⟩ : Out)).map encOut) [.bool (((kk + 7) % 3) == 0)] (.bool (((kk + 7) % 3) == 0)) (encOut (⟨kk, ⟨kk + 1, kk + 2, kk + 3, kk + 4, kk + 5, kk + 6, e1.msg.yes, e1.msg.release, e1.msg.part, e1.msg.bytes, ⟨e1.msg.cmd.kind, e1.msg.cmd.release, e1.msg.cmd.node, e1.msg.cmd.size, e1.msg.cmd.digest⟩, e1.msg.entries⟩⟩ : Out)) (encOut (⟨kk, ⟨kk + 1, kk + 2, kk + 3, kk + 4, kk + 5, kk + 6, ((kk + 7) % 3) == 0, e1.msg.release, e1.msg.part, e1.msg.bytes, ⟨e1.msg.cmd.kind, e1.msg.cmd.release, e1.msg.cmd.node, e1.msg.cmd.size, e1.msg.cmd.digest⟩, e1.msg.entries⟩⟩ : Out)) (mapGet (setGet he1)) setSetV ?_
    refine At.done rfl ?_
    refine AW.r ?_
    refine At.a 2 ?_
    refine At.sJ 76 ((kk + 7) + 1) (kk + 8) (by omega) (by omega) ?_
    refine At.a 1 ?_
    refine At.done rfl ?_
    refine AW.r ?_
    refine At.a 3 ?_
    refine At.iRf 29 80 (.tmp 77) (.tmp 78) 0 ((o.set i (⟨kk, ⟨kk + 1, kk + 2, kk + 3, kk + 4, kk + 5, kk + 6, ((kk + 7) % 3) == 0, e1.msg.release, e1.msg.part, e1.msg.bytes, ⟨e1.msg.cmd.kind, e1.msg.cmd.release, e1.msg.cmd.node, e1.msg.cmd.size, e1.msg.cmd.digest⟩, e1.msg.entries⟩⟩ : Out)).map encOut) .i64 (i : Int) 76 17 (by omega) (by simp only [List.length_map, List.length_append, List.length_take, List.length_drop, List.length_replicate, List.length_set, List.length_cons, List.length_nil]; omega) ?_
    refine At.a 2 ?_
    refine At.sEl 3 0 76 17 i 8 (.tmp 82) (.tmp 79) ((o.set i (⟨kk, ⟨kk + 1, kk + 2, kk + 3, kk + 4, kk + 5, kk + 6, ((kk + 7) % 3) == 0, e1.msg.release, e1.msg.part, e1.msg.bytes, ⟨e1.msg.cmd.kind, e1.msg.cmd.release, e1.msg.cmd.node, e1.msg.cmd.size, e1.msg.cmd.digest⟩, e1.msg.entries⟩⟩ : Out)).map encOut) ((o.set i (⟨kk, ⟨kk + 1, kk + 2, kk + 3, kk + 4, kk + 5, kk + 6, ((kk + 7) % 3) == 0, kk + 8, e1.msg.part, e1.msg.bytes, ⟨e1.msg.cmd.kind, e1.msg.cmd.release, e1.msg.cmd.node, e1.msg.cmd.size, e1.msg.cmd.digest⟩, e1.msg.entries⟩⟩ : Out)).map encOut) [.int .i64 (kk + 8)] (.int .i64 (kk + 8)) (encOut (⟨kk, ⟨kk + 1, kk + 2, kk + 3, kk + 4, kk + 5, kk + 6, ((kk + 7) % 3) == 0, e1.msg.release, e1.msg.part, e1.msg.bytes, ⟨e1.msg.cmd.kind, e1.msg.cmd.release, e1.msg.cmd.node, e1.msg.cmd.size, e1.msg.cmd.digest⟩, e1.msg.entries⟩⟩ : Out)) (encOut (⟨kk, ⟨kk + 1, kk + 2, kk + 3, kk + 4, kk + 5, kk + 6, ((kk + 7) % 3) == 0, kk + 8, e1.msg.part, e1.msg.bytes, ⟨e1.msg.cmd.kind, e1.msg.cmd.release, e1.msg.cmd.node, e1.msg.cmd.size, e1.msg.cmd.digest⟩, e1.msg.entries⟩⟩ : Out)) (mapGet (setGet he1)) setSetV ?_
    refine At.done rfl ?_
    refine AW.r ?_
    refine At.a 2 ?_
    refine At.sJ 84 ((kk + 8) + 1) (kk + 9) (by omega) (by omega) ?_
    refine At.a 1 ?_
    refine At.done rfl ?_
    refine AW.r ?_
    refine At.a 3 ?_
    refine At.iRf 29 88 (.tmp 85) (.tmp 86) 0 ((o.set i (⟨kk, ⟨kk + 1, kk + 2, kk + 3, kk + 4, kk + 5, kk + 6, ((kk + 7) % 3) == 0, kk + 8, e1.msg.part, e1.msg.bytes, ⟨e1.msg.cmd.kind, e1.msg.cmd.release, e1.msg.cmd.node, e1.msg.cmd.size, e1.msg.cmd.digest⟩, e1.msg.entries⟩⟩ : Out)).map encOut) .i64 (i : Int) 76 17 (by omega) (by simp only [List.length_map, List.length_append, List.length_take, List.length_drop, List.length_replicate, List.length_set, List.length_cons, List.length_nil]; omega) ?_
    refine At.a 2 ?_
    refine At.sEl 3 0 76 17 i 9 (.tmp 90) (.tmp 87) ((o.set i (⟨kk, ⟨kk + 1, kk + 2, kk + 3, kk + 4, kk + 5, kk + 6, ((kk + 7) % 3) == 0, kk + 8, e1.msg.part, e1.msg.bytes, ⟨e1.msg.cmd.kind, e1.msg.cmd.release, e1.msg.cmd.node, e1.msg.cmd.size, e1.msg.cmd.digest⟩, e1.msg.entries⟩⟩ : Out)).map encOut) ((o.set i (⟨kk, ⟨kk + 1, kk + 2, kk + 3, kk + 4, kk + 5, kk + 6, ((kk + 7) % 3) == 0, kk + 8, kk + 9, e1.msg.bytes, ⟨e1.msg.cmd.kind, e1.msg.cmd.release, e1.msg.cmd.node, e1.msg.cmd.size, e1.msg.cmd.digest⟩, e1.msg.entries⟩⟩ : Out)).map encOut) [.int .i64 (kk + 9)] (.int .i64 (kk + 9)) (encOut (⟨kk, ⟨kk + 1, kk + 2, kk + 3, kk + 4, kk + 5, kk + 6, ((kk + 7) % 3) == 0, kk + 8, e1.msg.part, e1.msg.bytes, ⟨e1.msg.cmd.kind, e1.msg.cmd.release, e1.msg.cmd.node, e1.msg.cmd.size, e1.msg.cmd.digest⟩, e1.msg.entries⟩⟩ : Out)) (encOut (⟨kk, ⟨kk + 1, kk + 2, kk + 3, kk + 4, kk + 5, kk + 6, ((kk + 7) % 3) == 0, kk + 8, kk + 9, e1.msg.bytes, ⟨e1.msg.cmd.kind, e1.msg.cmd.release, e1.msg.cmd.node, e1.msg.cmd.size, e1.msg.cmd.digest⟩, e1.msg.entries⟩⟩ : Out)) (mapGet (setGet he1)) setSetV ?_
    refine At.done rfl ?_
    refine AW.r ?_
    refine At.a 2 ?_
    refine At.sJ 92 ((kk + 9) + 1) (kk + 10) (by omega) (by omega) ?_
    refine At.a 1 ?_
    refine At.done rfl ?_
    refine AW.r ?_
    refine At.a 3 ?_
    refine At.c (laws_markText_spec  (kk + 10) (by omega)) Try.call48 true [] [] [] trivial ?_
    refine At.iRf 29 97 (.tmp 93) (.tmp 94) 0 ((o.set i (⟨kk, ⟨kk + 1, kk + 2, kk + 3, kk + 4, kk + 5, kk + 6, ((kk + 7) % 3) == 0, kk + 8, kk + 9, e1.msg.bytes, ⟨e1.msg.cmd.kind, e1.msg.cmd.release, e1.msg.cmd.node, e1.msg.cmd.size, e1.msg.cmd.digest⟩, e1.msg.entries⟩⟩ : Out)).map encOut) .i64 (i : Int) 76 17 (by omega) (by simp only [List.length_map, List.length_append, List.length_take, List.length_drop, List.length_replicate, List.length_set, List.length_cons, List.length_nil]; omega) ?_
    refine At.a 2 ?_
    refine At.sEl 9 0 76 17 i 10 (.tmp 99) (.tmp 96) ((o.set i (⟨kk, ⟨kk + 1, kk + 2, kk + 3, kk + 4, kk + 5, kk + 6, ((kk + 7) % 3) == 0, kk + 8, kk + 9, e1.msg.bytes, ⟨e1.msg.cmd.kind, e1.msg.cmd.release, e1.msg.cmd.node, e1.msg.cmd.size, e1.msg.cmd.digest⟩, e1.msg.entries⟩⟩ : Out)).map encOut) ((o.set i (⟨kk, ⟨kk + 1, kk + 2, kk + 3, kk + 4, kk + 5, kk + 6, ((kk + 7) % 3) == 0, kk + 8, kk + 9, markT (kk + 10), ⟨e1.msg.cmd.kind, e1.msg.cmd.release, e1.msg.cmd.node, e1.msg.cmd.size, e1.msg.cmd.digest⟩, e1.msg.entries⟩⟩ : Out)).map encOut) [.str (markT (kk + 10))] (.str (markT (kk + 10))) (encOut (⟨kk, ⟨kk + 1, kk + 2, kk + 3, kk + 4, kk + 5, kk + 6, ((kk + 7) % 3) == 0, kk + 8, kk + 9, e1.msg.bytes, ⟨e1.msg.cmd.kind, e1.msg.cmd.release, e1.msg.cmd.node, e1.msg.cmd.size, e1.msg.cmd.digest⟩, e1.msg.entries⟩⟩ : Out)) (encOut (⟨kk, ⟨kk + 1, kk + 2, kk + 3, kk + 4, kk + 5, kk + 6, ((kk + 7) % 3) == 0, kk + 8, kk + 9, markT (kk + 10), ⟨e1.msg.cmd.kind, e1.msg.cmd.release, e1.msg.cmd.node, e1.msg.cmd.size, e1.msg.cmd.digest⟩, e1.msg.entries⟩⟩ : Out)) (mapGet (setGet he1)) setSetV ?_
    refine At.done rfl ?_
    refine AW.r ?_
    refine At.a 2 ?_
    refine At.sJ 101 ((kk + 10) + 1) (kk + 11) (by omega) (by omega) ?_
    refine At.a 1 ?_
    refine At.done rfl ?_
    refine AW.r ?_
    refine At.a 3 ?_
    refine At.iRf 29 105 (.tmp 102) (.tmp 103) 0 ((o.set i (⟨kk, ⟨kk + 1, kk + 2, kk + 3, kk + 4, kk + 5, kk + 6, ((kk + 7) % 3) == 0, kk + 8, kk + 9, markT (kk + 10), ⟨e1.msg.cmd.kind, e1.msg.cmd.release, e1.msg.cmd.node, e1.msg.cmd.size, e1.msg.cmd.digest⟩, e1.msg.entries⟩⟩ : Out)).map encOut) .i64 (i : Int) 76 17 (by omega) (by simp only [List.length_map, List.length_append, List.length_take, List.length_drop, List.length_replicate, List.length_set, List.length_cons, List.length_nil]; omega) ?_
    refine At.a 3 ?_
    refine At.sEl 3 0 76 17 i 11 (.tmp 108) (.tmp 104) ((o.set i (⟨kk, ⟨kk + 1, kk + 2, kk + 3, kk + 4, kk + 5, kk + 6, ((kk + 7) % 3) == 0, kk + 8, kk + 9, markT (kk + 10), ⟨e1.msg.cmd.kind, e1.msg.cmd.release, e1.msg.cmd.node, e1.msg.cmd.size, e1.msg.cmd.digest⟩, e1.msg.entries⟩⟩ : Out)).map encOut) ((o.set i (⟨kk, ⟨kk + 1, kk + 2, kk + 3, kk + 4, kk + 5, kk + 6, ((kk + 7) % 3) == 0, kk + 8, kk + 9, markT (kk + 10), ⟨kk + 11, e1.msg.cmd.release, e1.msg.cmd.node, e1.msg.cmd.size, e1.msg.cmd.digest⟩, e1.msg.entries⟩⟩ : Out)).map encOut) [.int .i64 (kk + 11)] (.int .i64 (kk + 11)) (encOut (⟨kk, ⟨kk + 1, kk + 2, kk + 3, kk + 4, kk + 5, kk + 6, ((kk + 7) % 3) == 0, kk + 8, kk + 9, markT (kk + 10), ⟨e1.msg.cmd.kind, e1.msg.cmd.release, e1.msg.cmd.node, e1.msg.cmd.size, e1.msg.cmd.digest⟩, e1.msg.entries⟩⟩ : Out)) (encOut (⟨kk, ⟨kk + 1, kk + 2, kk + 3, kk + 4, kk + 5, kk + 6, ((kk + 7) % 3) == 0, kk + 8, kk + 9, markT (kk + 10), ⟨kk + 11, e1.msg.cmd.release, e1.msg.cmd.node, e1.msg.cmd.size, e1.msg.cmd.digest⟩, e1.msg.entries⟩⟩ : Out)) (mapGet (setGet he1)) setSetV ?_
    refine At.done rfl ?_
    refine AW.r ?_
    refine At.a 2 ?_
    refine At.sJ 110 ((kk + 11) + 1) (kk + 12) (by omega) (by omega) ?_
    refine At.a 1 ?_
    refine At.done rfl ?_
    refine AW.r ?_
    refine At.a 3 ?_
    refine At.iRf 29 114 (.tmp 111) (.tmp 112) 0 ((o.set i (⟨kk, ⟨kk + 1, kk + 2, kk + 3, kk + 4, kk + 5, kk + 6, ((kk + 7) % 3) == 0, kk + 8, kk + 9, markT (kk + 10), ⟨kk + 11, e1.msg.cmd.release, e1.msg.cmd.node, e1.msg.cmd.size, e1.msg.cmd.digest⟩, e1.msg.entries⟩⟩ : Out)).map encOut) .i64 (i : Int) 76 17 (by omega) (by simp only [List.length_map, List.length_append, List.length_take, List.length_drop, List.length_replicate, List.length_set, List.length_cons, List.length_nil]; omega) ?_
    refine At.a 3 ?_
    refine At.sEl 3 0 76 17 i 12 (.tmp 117) (.tmp 113) ((o.set i (⟨kk, ⟨kk + 1, kk + 2, kk + 3, kk + 4, kk + 5, kk + 6, ((kk + 7) % 3) == 0, kk + 8, kk + 9, markT (kk + 10), ⟨kk + 11, e1.msg.cmd.release, e1.msg.cmd.node, e1.msg.cmd.size, e1.msg.cmd.digest⟩, e1.msg.entries⟩⟩ : Out)).map encOut) ((o.set i (⟨kk, ⟨kk + 1, kk + 2, kk + 3, kk + 4, kk + 5, kk + 6, ((kk + 7) % 3) == 0, kk + 8, kk + 9, markT (kk + 10), ⟨kk + 11, kk + 12, e1.msg.cmd.node, e1.msg.cmd.size, e1.msg.cmd.digest⟩, e1.msg.entries⟩⟩ : Out)).map encOut) [.int .i64 (kk + 12)] (.int .i64 (kk + 12)) (encOut (⟨kk, ⟨kk + 1, kk + 2, kk + 3, kk + 4, kk + 5, kk + 6, ((kk + 7) % 3) == 0, kk + 8, kk + 9, markT (kk + 10), ⟨kk + 11, e1.msg.cmd.release, e1.msg.cmd.node, e1.msg.cmd.size, e1.msg.cmd.digest⟩, e1.msg.entries⟩⟩ : Out)) (encOut (⟨kk, ⟨kk + 1, kk + 2, kk + 3, kk + 4, kk + 5, kk + 6, ((kk + 7) % 3) == 0, kk + 8, kk + 9, markT (kk + 10), ⟨kk + 11, kk + 12, e1.msg.cmd.node, e1.msg.cmd.size, e1.msg.cmd.digest⟩, e1.msg.entries⟩⟩ : Out)) (mapGet (setGet he1)) setSetV ?_
    refine At.done rfl ?_
    refine AW.r ?_
    refine At.a 2 ?_
    refine At.sJ 119 ((kk + 12) + 1) (kk + 13) (by omega) (by omega) ?_
    refine At.a 1 ?_
    refine At.done rfl ?_
    refine AW.r ?_
    refine At.a 3 ?_
    refine At.iRf 29 123 (.tmp 120) (.tmp 121) 0 ((o.set i (⟨kk, ⟨kk + 1, kk + 2, kk + 3, kk + 4, kk + 5, kk + 6, ((kk + 7) % 3) == 0, kk + 8, kk + 9, markT (kk + 10), ⟨kk + 11, kk + 12, e1.msg.cmd.node, e1.msg.cmd.size, e1.msg.cmd.digest⟩, e1.msg.entries⟩⟩ : Out)).map encOut) .i64 (i : Int) 76 17 (by omega) (by simp only [List.length_map, List.length_append, List.length_take, List.length_drop, List.length_replicate, List.length_set, List.length_cons, List.length_nil]; omega) ?_
    refine At.a 3 ?_
    refine At.sEl 3 0 76 17 i 13 (.tmp 126) (.tmp 122) ((o.set i (⟨kk, ⟨kk + 1, kk + 2, kk + 3, kk + 4, kk + 5, kk + 6, ((kk + 7) % 3) == 0, kk + 8, kk + 9, markT (kk + 10), ⟨kk + 11, kk + 12, e1.msg.cmd.node, e1.msg.cmd.size, e1.msg.cmd.digest⟩, e1.msg.entries⟩⟩ : Out)).map encOut) ((o.set i (⟨kk, ⟨kk + 1, kk + 2, kk + 3, kk + 4, kk + 5, kk + 6, ((kk + 7) % 3) == 0, kk + 8, kk + 9, markT (kk + 10), ⟨kk + 11, kk + 12, kk + 13, e1.msg.cmd.size, e1.msg.cmd.digest⟩, e1.msg.entries⟩⟩ : Out)).map encOut) [.int .i64 (kk + 13)] (.int .i64 (kk + 13)) (encOut (⟨kk, ⟨kk + 1, kk + 2, kk + 3, kk + 4, kk + 5, kk + 6, ((kk + 7) % 3) == 0, kk + 8, kk + 9, markT (kk + 10), ⟨kk + 11, kk + 12, e1.msg.cmd.node, e1.msg.cmd.size, e1.msg.cmd.digest⟩, e1.msg.entries⟩⟩ : Out)) (encOut (⟨kk, ⟨kk + 1, kk + 2, kk + 3, kk + 4, kk + 5, kk + 6, ((kk + 7) % 3) == 0, kk + 8, kk + 9, markT (kk + 10), ⟨kk + 11, kk + 12, kk + 13, e1.msg.cmd.size, e1.msg.cmd.digest⟩, e1.msg.entries⟩⟩ : Out)) (mapGet (setGet he1)) setSetV ?_
    refine At.done rfl ?_
    refine AW.r ?_
    refine At.a 2 ?_
    refine At.sJ 128 ((kk + 13) + 1) (kk + 14) (by omega) (by omega) ?_
    refine At.a 1 ?_
    refine At.done rfl ?_
    refine AW.r ?_
    refine At.a 3 ?_
    refine At.iRf 29 132 (.tmp 129) (.tmp 130) 0 ((o.set i (⟨kk, ⟨kk + 1, kk + 2, kk + 3, kk + 4, kk + 5, kk + 6, ((kk + 7) % 3) == 0, kk + 8, kk + 9, markT (kk + 10), ⟨kk + 11, kk + 12, kk + 13, e1.msg.cmd.size, e1.msg.cmd.digest⟩, e1.msg.entries⟩⟩ : Out)).map encOut) .i64 (i : Int) 76 17 (by omega) (by simp only [List.length_map, List.length_append, List.length_take, List.length_drop, List.length_replicate, List.length_set, List.length_cons, List.length_nil]; omega) ?_
    refine At.a 3 ?_
    refine At.sEl 3 0 76 17 i 14 (.tmp 135) (.tmp 131) ((o.set i (⟨kk, ⟨kk + 1, kk + 2, kk + 3, kk + 4, kk + 5, kk + 6, ((kk + 7) % 3) == 0, kk + 8, kk + 9, markT (kk + 10), ⟨kk + 11, kk + 12, kk + 13, e1.msg.cmd.size, e1.msg.cmd.digest⟩, e1.msg.entries⟩⟩ : Out)).map encOut) ((o.set i (⟨kk, ⟨kk + 1, kk + 2, kk + 3, kk + 4, kk + 5, kk + 6, ((kk + 7) % 3) == 0, kk + 8, kk + 9, markT (kk + 10), ⟨kk + 11, kk + 12, kk + 13, kk + 14, e1.msg.cmd.digest⟩, e1.msg.entries⟩⟩ : Out)).map encOut) [.int .i64 (kk + 14)] (.int .i64 (kk + 14)) (encOut (⟨kk, ⟨kk + 1, kk + 2, kk + 3, kk + 4, kk + 5, kk + 6, ((kk + 7) % 3) == 0, kk + 8, kk + 9, markT (kk + 10), ⟨kk + 11, kk + 12, kk + 13, e1.msg.cmd.size, e1.msg.cmd.digest⟩, e1.msg.entries⟩⟩ : Out)) (encOut (⟨kk, ⟨kk + 1, kk + 2, kk + 3, kk + 4, kk + 5, kk + 6, ((kk + 7) % 3) == 0, kk + 8, kk + 9, markT (kk + 10), ⟨kk + 11, kk + 12, kk + 13, kk + 14, e1.msg.cmd.digest⟩, e1.msg.entries⟩⟩ : Out)) (mapGet (setGet he1)) setSetV ?_
    refine At.done rfl ?_
    refine AW.r ?_
    refine At.a 2 ?_
    refine At.sJ 137 ((kk + 14) + 1) (kk + 15) (by omega) (by omega) ?_
    refine At.a 1 ?_
    refine At.done rfl ?_
    refine AW.r ?_
    refine At.a 3 ?_
    refine At.c (laws_markText_spec  (kk + 15) (by omega)) Try.call48 true [] [] [] trivial ?_
    refine At.iRf 29 142 (.tmp 138) (.tmp 139) 0 ((o.set i (⟨kk, ⟨kk + 1, kk + 2, kk + 3, kk + 4, kk + 5, kk + 6, ((kk + 7) % 3) == 0, kk + 8, kk + 9, markT (kk + 10), ⟨kk + 11, kk + 12, kk + 13, kk + 14, e1.msg.cmd.digest⟩, e1.msg.entries⟩⟩ : Out)).map encOut) .i64 (i : Int) 76 17 (by omega) (by simp only [List.length_map, List.length_append, List.length_take, List.length_drop, List.length_replicate, List.length_set, List.length_cons, List.length_nil]; omega) ?_
    refine At.a 3 ?_
    refine At.sEl 9 0 76 17 i 15 (.tmp 145) (.tmp 141) ((o.set i (⟨kk, ⟨kk + 1, kk + 2, kk + 3, kk + 4, kk + 5, kk + 6, ((kk + 7) % 3) == 0, kk + 8, kk + 9, markT (kk + 10), ⟨kk + 11, kk + 12, kk + 13, kk + 14, e1.msg.cmd.digest⟩, e1.msg.entries⟩⟩ : Out)).map encOut) ((o.set i (⟨kk, ⟨kk + 1, kk + 2, kk + 3, kk + 4, kk + 5, kk + 6, ((kk + 7) % 3) == 0, kk + 8, kk + 9, markT (kk + 10), ⟨kk + 11, kk + 12, kk + 13, kk + 14, markT (kk + 15)⟩, e1.msg.entries⟩⟩ : Out)).map encOut) [.str (markT (kk + 15))] (.str (markT (kk + 15))) (encOut (⟨kk, ⟨kk + 1, kk + 2, kk + 3, kk + 4, kk + 5, kk + 6, ((kk + 7) % 3) == 0, kk + 8, kk + 9, markT (kk + 10), ⟨kk + 11, kk + 12, kk + 13, kk + 14, e1.msg.cmd.digest⟩, e1.msg.entries⟩⟩ : Out)) (encOut (⟨kk, ⟨kk + 1, kk + 2, kk + 3, kk + 4, kk + 5, kk + 6, ((kk + 7) % 3) == 0, kk + 8, kk + 9, markT (kk + 10), ⟨kk + 11, kk + 12, kk + 13, kk + 14, markT (kk + 15)⟩, e1.msg.entries⟩⟩ : Out)) (mapGet (setGet he1)) setSetV ?_
    refine At.done rfl ?_
    refine AW.r ?_
    refine At.a 2 ?_
    refine At.sJ 147 ((kk + 15) + 1) (kk + 16) (by omega) (by omega) ?_
    refine At.a 1 ?_
    refine At.done rfl ?_
    refine AW.region (At.start ?_)
    refine At.a 2 ?_
    refine At.iRf 29 150 (.tmp 148) (.tmp 149) 0 ((o.set i (⟨kk, ⟨kk + 1, kk + 2, kk + 3, kk + 4, kk + 5, kk + 6, ((kk + 7) % 3) == 0, kk + 8, kk + 9, markT (kk + 10), ⟨kk + 11, kk + 12, kk + 13, kk + 14, markT (kk + 15)⟩, e1.msg.entries⟩⟩ : Out)).map encOut) .i64 (i : Int) 76 17 (by omega) (by simp only [List.length_map, List.length_append, List.length_take, List.length_drop, List.length_replicate, List.length_set, List.length_cons, List.length_nil]; omega) ?_
    refine At.a 2 ?_
    refine At.out (t := 31) (d := 153) (x := .tmp 152) (i := 0) (e := 76) (es := 17) (xs := ((o.set i (⟨kk, ⟨kk + 1, kk + 2, kk + 3, kk + 4, kk + 5, kk + 6, ((kk + 7) % 3) == 0, kk + 8, kk + 9, markT (kk + 10), ⟨kk + 11, kk + 12, kk + 13, kk + 14, markT (kk + 15)⟩, e1.msg.entries⟩⟩ : Out)).map encOut)) (xs' := (((o.set i (⟨kk, ⟨kk + 1, kk + 2, kk + 3, kk + 4, kk + 5, kk + 6, ((kk + 7) % 3) == 0, kk + 8, kk + 9, markT (kk + 10), ⟨kk + 11, kk + 12, kk + 13, kk + 14, markT (kk + 15)⟩, e1.msg.entries⟩⟩ : Out)).map encOut)).set i (.agg [.int .i64 kk, .int .i64 (kk + 1), .int .i64 (kk + 2), .int .i64 (kk + 3), .int .i64 (kk + 4), .int .i64 (kk + 5), .int .i64 (kk + 6), .bool (((kk + 7) % 3) == 0), .int .i64 (kk + 8), .int .i64 (kk + 9), .str (markT (kk + 10)), .int .i64 (kk + 11), .int .i64 (kk + 12), .int .i64 (kk + 13), .int .i64 (kk + 14), .str (markT (kk + 15)), .un])) (j := i) (off := 16) (ys := (e1.msg.entries.map encEnt)) (e' := 88) (es' := 6) 253 (encOut (⟨kk, ⟨kk + 1, kk + 2, kk + 3, kk + 4, kk + 5, kk + 6, ((kk + 7) % 3) == 0, kk + 8, kk + 9, markT (kk + 10), ⟨kk + 11, kk + 12, kk + 13, kk + 14, markT (kk + 15)⟩, e1.msg.entries⟩⟩ : Out)) (.agg [.int .i64 kk, .int .i64 (kk + 1), .int .i64 (kk + 2), .int .i64 (kk + 3), .int .i64 (kk + 4), .int .i64 (kk + 5), .int .i64 (kk + 6), .bool (((kk + 7) % 3) == 0), .int .i64 (kk + 8), .int .i64 (kk + 9), .str (markT (kk + 10)), .int .i64 (kk + 11), .int .i64 (kk + 12), .int .i64 (kk + 13), .int .i64 (kk + 14), .str (markT (kk + 15)), .un]) (by kernel_rfl) (by kernel_rfl) (by kernel_rfl) (by kernel_rfl) (by kernel_rfl) (mapGet (setGet he1)) (by kernel_rfl) (by decide) rfl ?_
    refine At.a 1 ?_
    refine At.c (laws_markEntryS_spec  e1.msg.entries (kk + 16) (by omega) (by omega) (by omega)) Try.call49 true [(253, 0)] [] [] trivial ?_
    refine At.a 1 ?_
    refine At.done rfl ?_
    refine AW.weak (Sub.close (i := 0) (e := 76) (es := 17) (j := i) (off := 16) (k := 253) (e' := 88) (es' := 6) (xs := (((o.set i (⟨kk, ⟨kk + 1, kk + 2, kk + 3, kk + 4, kk + 5, kk + 6, ((kk + 7) % 3) == 0, kk + 8, kk + 9, markT (kk + 10), ⟨kk + 11, kk + 12, kk + 13, kk + 14, markT (kk + 15)⟩, e1.msg.entries⟩⟩ : Out)).map encOut)).set i (.agg [.int .i64 kk, .int .i64 (kk + 1), .int .i64 (kk + 2), .int .i64 (kk + 3), .int .i64 (kk + 4), .int .i64 (kk + 5), .int .i64 (kk + 6), .bool (((kk + 7) % 3) == 0), .int .i64 (kk + 8), .int .i64 (kk + 9), .str (markT (kk + 10)), .int .i64 (kk + 11), .int .i64 (kk + 12), .int .i64 (kk + 13), .int .i64 (kk + 14), .str (markT (kk + 15)), .un])) (xs' := ((o.set i (⟨kk, ⟨kk + 1, kk + 2, kk + 3, kk + 4, kk + 5, kk + 6, ((kk + 7) % 3) == 0, kk + 8, kk + 9, markT (kk + 10), ⟨kk + 11, kk + 12, kk + 13, kk + 14, markT (kk + 15)⟩, marks markE nxE e1.msg.entries (kk + 16)⟩⟩ : Out)).map encOut)) (zs := ((marks markE nxE e1.msg.entries (kk + 16)).map encEnt)) (y := .agg [.int .i64 kk, .int .i64 (kk + 1), .int .i64 (kk + 2), .int .i64 (kk + 3), .int .i64 (kk + 4), .int .i64 (kk + 5), .int .i64 (kk + 6), .bool (((kk + 7) % 3) == 0), .int .i64 (kk + 8), .int .i64 (kk + 9), .str (markT (kk + 10)), .int .i64 (kk + 11), .int .i64 (kk + 12), .int .i64 (kk + 13), .int .i64 (kk + 14), .str (markT (kk + 15)), .un]) (y' := encOut (⟨kk, ⟨kk + 1, kk + 2, kk + 3, kk + 4, kk + 5, kk + 6, ((kk + 7) % 3) == 0, kk + 8, kk + 9, markT (kk + 10), ⟨kk + 11, kk + 12, kk + 13, kk + 14, markT (kk + 15)⟩, marks markE nxE e1.msg.entries (kk + 16)⟩⟩ : Out)) (by kernel_rfl) flatEnts (by decide) (setGet (mapGet (setGet he1))) (by kernel_rfl) (by rw [List.set_set, ← setSetV])) ?_
    refine AW.region (At.start ?_)
    refine At.a 2 ?_
    refine At.sI 11 ((i : Int) + 1) (by omega) ?_
    refine At.a 1 ?_
    refine At.done rfl ?_
    exact ⟨(i + 1, (ends nxE e1.msg.entries (kk + 16)), (o.set i (⟨kk, ⟨kk + 1, kk + 2, kk + 3, kk + 4, kk + 5, kk + 6, ((kk + 7) % 3) == 0, kk + 8, kk + 9, markT (kk + 10), ⟨kk + 11, kk + 12, kk + 13, kk + 14, markT (kk + 15)⟩, marks markE nxE e1.msg.entries (kk + 16)⟩⟩ : Out))), ⟨by omega, hR.step he1 rfl rfl⟩, (by simp only; omega), Sub.o [(0, 0)] [true, true, false, false, false, true]⟩
  · skip
    refine AW.exit ?_
    refine AW.r ?_
    refine At.a 2 ?_
    refine At.done rfl ?_
    refine AW.ret ?_
    refine ⟨_, Sub.refl _ _, ?_⟩
    refine KF.conv (fun w => .int .i64 w) (fun w => [.arr 76 17 ((marks markO nxO a k).map encOut)]) (show (kk) = (ends nxO a k) from (hR.done (by omega)).2) ?_
    refine KF.conv (fun w => .int .i64 kk) (fun w => [.arr 76 17 (w.map encOut)]) (show (o) = (marks markO nxO a k) from (hR.done (by omega)).1) ?_
    exact KF.m [(0, 0)] [.int .i64 kk]
set_option maxRecDepth 100000 in
set_option maxHeartbeats 4000000 in
theorem laws_heldEntryS_spec  (a : List Ent) (k : Int) (ha : a.length ≤ 1048576) (hk : 0 ≤ k ∧ k + 20 * a.length ≤ 4611686018427387904) : FnSpec Try.prog 50 [.sl false 6 (a.map encEnt), .int .i64 k] [] (.int .i64 (held okE nxE a k)) [] := by
  refine FnSpec.of 73 Try.func50 rfl Try.ntmps50 (by simp) (AW.weakK ?_)
  refine AW.r ?_
  refine At.a 1 ?_
  refine At.done rfl ?_
  refine AW.seq ?_
  refine AW.r ?_
  refine At.a 1 ?_
  refine At.done rfl ?_
  refine AW.block ?_
  refine AW.loopW (fun (x : Nat × Int) => match x with | (i, kk) => Go.Sy.mk [.sl false 6 (a.map encEnt), .int .i64 kk, .un, .un, .un, .int .i64 (i : Int)] []) (fun (x : Nat × Int) => match x with | (i, kk) => i ≤ a.length ∧ 0 ≤ kk ∧ kk + 20 * ((a.length : Int) - i) ≤ 4611686018427387904 ∧ held okE nxE a k = held okE nxE (a.drop i) kk) (fun (x : Nat × Int) => match x with | (i, kk) => a.length - i) (0, k) ⟨by omega, by omega, by omega, by rw [List.drop_zero]⟩ (Sub.o [] [true, true, false, false, false, true]) ?_
  rintro ⟨i, kk⟩ ⟨hi, hkk, hkb, hR⟩
  refine AW.seq ?_
  refine AW.r ?_
  refine At.a 3 ?_
  refine At.sL 8 encEnt a ?_
  refine At.a 1 ?_
  refine At.done rfl ?_
  refine AW.cD ((i : Int) < (a.length : Int)) (fun h1 => ?_) (fun h1 => ?_)
  · skip
    refine AW.skip ?_
    refine AW.seq ?_
    refine AW.block ?_
    refine AW.seq ?_
    refine AW.r ?_
    refine At.a 2 ?_
    refine At.iSl 31 14 (.tmp 12) (.tmp 13) false 6 (a.map encEnt) .i64 (i : Int) 88 (by omega) (by simp only [List.length_map, List.length_append, List.length_take, List.length_drop, List.length_replicate, List.length_set, List.length_cons, List.length_nil]; omega) ?_
    refine At.a 1 ?_
    refine Exists.elim (show ∃ e, a[i]? = some e from ⟨_, List.getElem?_eq_getElem (by omega)⟩) fun e1 he1 => ?_
    refine At.lVp 3 16 (.tmp 15) false 6 (a.map encEnt) i 0 false 1 (encEnt e1) (.int .i64 e1.term) (mapGet he1) ?_
    refine At.a 2 ?_
    refine At.done rfl ?_
    refine AW.cU e1.term kk (fun h2 => ?_) (fun h2 => ?_)
    · skip
      refine AW.r ?_
      refine At.a 1 ?_
      refine At.done rfl ?_
      refine AW.ret ?_
      refine ⟨_, Sub.refl _ _, ?_⟩
      refine KF.conv (fun w => .int .i64 w) (fun w => []) (show (-1) = (held okE nxE a k) from by rw [hR, dropCons he1, held, if_neg (by simp [okE, h1, h2])]) ?_
      exact KF.m [] [.int .i64 (-1)]
    · skip
      refine AW.skip ?_
      refine AW.r ?_
      refine At.a 2 ?_
      refine At.sI 20 (kk + 1) (by omega) ?_
      refine At.a 1 ?_
      refine At.done rfl ?_
      refine AW.seq ?_
      refine AW.r ?_
      refine At.a 2 ?_
      refine At.iSl 31 23 (.tmp 21) (.tmp 22) false 6 (a.map encEnt) .i64 (i : Int) 88 (by omega) (by simp only [List.length_map, List.length_append, List.length_take, List.length_drop, List.length_replicate, List.length_set, List.length_cons, List.length_nil]; omega) ?_
      refine At.a 2 ?_
      refine At.lVp 3 26 (.tmp 25) false 6 (a.map encEnt) i 1 false 1 (encEnt e1) (.int .i64 e1.cmd.kind) (mapGet he1) ?_
      refine At.a 2 ?_
      refine At.done rfl ?_
      refine AW.cU e1.cmd.kind (kk + 1) (fun h3 => ?_) (fun h3 => ?_)
      · skip
        refine AW.r ?_
        refine At.a 1 ?_
        refine At.done rfl ?_
        refine AW.ret ?_
        refine ⟨_, Sub.refl _ _, ?_⟩
        refine KF.conv (fun w => .int .i64 w) (fun w => []) (show (-1) = (held okE nxE a k) from by rw [hR, dropCons he1, held, if_neg (by simp [okE, h1, h2, h3])]) ?_
        exact KF.m [] [.int .i64 (-1)]
      · skip
        refine AW.skip ?_
        refine AW.r ?_
        refine At.a 2 ?_
        refine At.sJ 30 ((kk + 1) + 1) (kk + 2) (by omega) (by omega) ?_
        refine At.a 1 ?_
        refine At.done rfl ?_
        refine AW.seq ?_
        refine AW.r ?_
        refine At.a 2 ?_
        refine At.iSl 31 33 (.tmp 31) (.tmp 32) false 6 (a.map encEnt) .i64 (i : Int) 88 (by omega) (by simp only [List.length_map, List.length_append, List.length_take, List.length_drop, List.length_replicate, List.length_set, List.length_cons, List.length_nil]; omega) ?_
        refine At.a 2 ?_
        refine At.lVp 3 36 (.tmp 35) false 6 (a.map encEnt) i 2 false 1 (encEnt e1) (.int .i64 e1.cmd.release) (mapGet he1) ?_
        refine At.a 2 ?_
        refine At.done rfl ?_
        refine AW.cU e1.cmd.release (kk + 2) (fun h4 => ?_) (fun h4 => ?_)
        · skip
          refine AW.r ?_
          refine At.a 1 ?_
          refine At.done rfl ?_
          refine AW.ret ?_
          refine ⟨_, Sub.refl _ _, ?_⟩
          refine KF.conv (fun w => .int .i64 w) (fun w => []) (show (-1) = (held okE nxE a k) from by rw [hR, dropCons he1, held, if_neg (by simp [okE, h1, h2, h3, h4])]) ?_
          exact KF.m [] [.int .i64 (-1)]
        · skip
          refine AW.skip ?_
          refine AW.r ?_
          refine At.a 2 ?_
          refine At.sJ 40 ((kk + 2) + 1) (kk + 3) (by omega) (by omega) ?_
          refine At.a 1 ?_
          refine At.done rfl ?_
          refine AW.seq ?_
          refine AW.r ?_
          refine At.a 2 ?_
          refine At.iSl 31 43 (.tmp 41) (.tmp 42) false 6 (a.map encEnt) .i64 (i : Int) 88 (by omega) (by simp only [List.length_map, List.length_append, List.length_take, List.length_drop, List.length_replicate, List.length_set, List.length_cons, List.length_nil]; omega) ?_
          refine At.a 2 ?_
          refine At.lVp 3 46 (.tmp 45) false 6 (a.map encEnt) i 3 false 1 (encEnt e1) (.int .i64 e1.cmd.node) (mapGet he1) ?_
          refine At.a 2 ?_
          refine At.done rfl ?_
          refine AW.cU e1.cmd.node (kk + 3) (fun h5 => ?_) (fun h5 => ?_)
          · skip
            refine AW.r ?_
            refine At.a 1 ?_
            refine At.done rfl ?_
            refine AW.ret ?_
            refine ⟨_, Sub.refl _ _, ?_⟩
            refine KF.conv (fun w => .int .i64 w) (fun w => []) (show (-1) = (held okE nxE a k) from by rw [hR, dropCons he1, held, if_neg (by simp [okE, h1, h2, h3, h4, h5])]) ?_
            exact KF.m [] [.int .i64 (-1)]
          · skip
            refine AW.skip ?_
            refine AW.r ?_
            refine At.a 2 ?_
            refine At.sJ 50 ((kk + 3) + 1) (kk + 4) (by omega) (by omega) ?_
            refine At.a 1 ?_
            refine At.done rfl ?_
            refine AW.seq ?_
            refine AW.r ?_
            refine At.a 2 ?_
            refine At.iSl 31 53 (.tmp 51) (.tmp 52) false 6 (a.map encEnt) .i64 (i : Int) 88 (by omega) (by simp only [List.length_map, List.length_append, List.length_take, List.length_drop, List.length_replicate, List.length_set, List.length_cons, List.length_nil]; omega) ?_
            refine At.a 2 ?_
            refine At.lVp 3 56 (.tmp 55) false 6 (a.map encEnt) i 4 false 1 (encEnt e1) (.int .i64 e1.cmd.size) (mapGet he1) ?_
            refine At.a 2 ?_
            refine At.done rfl ?_
            refine AW.cU e1.cmd.size (kk + 4) (fun h6 => ?_) (fun h6 => ?_)
            · skip
              refine AW.r ?_
              refine At.a 1 ?_
              refine At.done rfl ?_
              refine AW.ret ?_
              refine ⟨_, Sub.refl _ _, ?_⟩
              refine KF.conv (fun w => .int .i64 w) (fun w => []) (show (-1) = (held okE nxE a k) from by rw [hR, dropCons he1, held, if_neg (by simp [okE, h1, h2, h3, h4, h5, h6])]) ?_
              exact KF.m [] [.int .i64 (-1)]
            · skip
              refine AW.skip ?_
              refine AW.r ?_
              refine At.a 2 ?_
              refine At.sJ 60 ((kk + 4) + 1) (kk + 5) (by omega) (by omega) ?_
              refine At.a 1 ?_
              refine At.done rfl ?_
              refine AW.seq ?_
              refine AW.seq ?_
              refine AW.regionD Try_mix (At.start ?_)
              refine At.a 2 ?_
              refine At.iSl 31 63 (.tmp 61) (.tmp 62) false 6 (a.map encEnt) .i64 (i : Int) 88 (by omega) (by simp only [List.length_map, List.length_append, List.length_take, List.length_drop, List.length_replicate, List.length_set, List.length_cons, List.length_nil]; omega) ?_
              refine At.a 2 ?_
              refine At.lVp 9 66 (.tmp 65) false 6 (a.map encEnt) i 5 false 1 (encEnt e1) (.str e1.cmd.digest) (mapGet he1) ?_
              refine At.a 1 ?_
              refine At.c (laws_markText_spec  (kk + 5) (by omega)) Try.call48 true [] [] [] trivial ?_
              refine At.a 1 ?_
              refine At.done rfl ⟨by kernel_rfl, ?_⟩
              refine AW.cNE (e1.cmd.digest.toList) ((markT (kk + 5)).toList) (fun h7 => ?_) (fun h7 => ?_)
              · skip
                refine AW.r ?_
                refine At.a 1 ?_
                refine At.done rfl ?_
                refine AW.ret ?_
                refine ⟨_, Sub.refl _ _, ?_⟩
                refine KF.conv (fun w => .int .i64 w) (fun w => []) (show (-1) = (held okE nxE a k) from by rw [hR, dropCons he1, held, if_neg (by simp [okE, h1, h2, h3, h4, h5, h6, h7])]) ?_
                exact KF.m [] [.int .i64 (-1)]
              · skip
                refine AW.skip ?_
                refine AW.region (At.start ?_)
                refine At.a 2 ?_
                refine At.sJ 71 ((kk + 5) + 1) (kk + 6) (by omega) (by omega) ?_
                refine At.a 1 ?_
                refine At.done rfl ?_
                refine AW.region (At.start ?_)
                refine At.a 2 ?_
                refine At.sI 11 ((i : Int) + 1) (by omega) ?_
                refine At.a 1 ?_
                refine At.done rfl ?_
                exact ⟨(i + 1, (kk + 6)), ⟨by omega, by omega, by omega, by rw [hR, dropCons he1, held, if_pos (by simp [okE, h1, h2, h3, h4, h5, h6, h7])]; rfl⟩, (by simp only; omega), Sub.o [] [true, true, false, false, false, true]⟩
  · skip
    refine AW.exit ?_
    refine AW.r ?_
    refine At.a 2 ?_
    refine At.done rfl ?_
    refine AW.ret ?_
    refine ⟨_, Sub.refl _ _, ?_⟩
    refine KF.conv (fun w => .int .i64 w) (fun w => []) (show (kk) = (held okE nxE a k) from by rw [hR, List.drop_of_length_le (by omega)]; rfl) ?_
    exact KF.m [] [.int .i64 kk]
set_option maxRecDepth 100000 in
set_option maxHeartbeats 4000000 in
theorem laws_heldHard_spec  (a : Hard) (k : Int) (ha : a.log.length ≤ 1048576) (hk : 0 ≤ k ∧ k ≤ 4611686018000000000) : FnSpec Try.prog 61 [.agg [.int .i64 a.term, .int .i64 a.vote, .sl false 6 (a.log.map encEnt)], .int .i64 k] [] (.int .i64 (held okE nxE a.log k)) [] := by
  refine FnSpec.of 12 Try.func61 rfl Try.ntmps61 (by simp) (AW.weakK ?_)
  refine AW.r ?_
  refine At.a 2 ?_
  refine At.done rfl ?_
  refine AW.r ?_
  refine At.a 3 ?_
  refine At.c (laws_heldEntryS_spec  a.log k (by omega) (by omega)) Try.call50 true [] [] [] trivial ?_
  have hhe := heldE_le a.log k (by omega)
  refine At.a 1 ?_
  refine At.done rfl ?_
  refine AW.seq ?_
  refine AW.r ?_
  refine At.a 2 ?_
  refine At.done rfl ?_
  refine AW.cD ((held okE nxE a.log k) < 0) (fun h1 => ?_) (fun h1 => ?_)
  · skip
    refine AW.r ?_
    refine At.a 1 ?_
    refine At.done rfl ?_
    refine AW.ret ?_
    refine ⟨_, Sub.refl _ _, ?_⟩
    refine KF.conv (fun w => .int .i64 w) (fun w => []) (show (-1) = (held okE nxE a.log k) from by exact (held_neg nxE_ge (by omega) (by assumption)).symm) ?_
    exact KF.m [] [.int .i64 (-1)]
  · skip
    refine AW.skip ?_
    refine AW.r ?_
    refine At.a 2 ?_
    refine At.done rfl ?_
    refine AW.ret ?_
    refine ⟨_, Sub.refl _ _, ?_⟩
    exact KF.m [] [.int .i64 (held okE nxE a.log k)]
set_option maxRecDepth 100000 in
set_option maxHeartbeats 4000000 in
theorem laws_heldIntS_spec  (a : List Int) (k : Int) (ha : a.length ≤ 1048576) (hk : 0 ≤ k ∧ k + 20 * a.length ≤ 4611686018427387904) : FnSpec Try.prog 62 [.sl false 1 (a.map encI), .int .i64 k] [] (.int .i64 (held okI nxI a k)) [] := by
  refine FnSpec.of 21 Try.func62 rfl Try.ntmps62 (by simp) (AW.weakK ?_)
  refine AW.r ?_
  refine At.a 1 ?_
  refine At.done rfl ?_
  refine AW.seq ?_
  refine AW.r ?_
  refine At.a 1 ?_
  refine At.done rfl ?_
  refine AW.block ?_
  refine AW.loopW (fun (x : Nat × Int) => match x with | (i, kk) => Go.Sy.mk [.sl false 1 (a.map encI), .int .i64 kk, .un, .un, .un, .int .i64 (i : Int)] []) (fun (x : Nat × Int) => match x with | (i, kk) => i ≤ a.length ∧ 0 ≤ kk ∧ kk + 20 * ((a.length : Int) - i) ≤ 4611686018427387904 ∧ held okI nxI a k = held okI nxI (a.drop i) kk) (fun (x : Nat × Int) => match x with | (i, kk) => a.length - i) (0, k) ⟨by omega, by omega, by omega, by rw [List.drop_zero]⟩ (Sub.o [] [true, true, false, false, false, true]) ?_
  rintro ⟨i, kk⟩ ⟨hi, hkk, hkb, hR⟩
  refine AW.seq ?_
  refine AW.r ?_
  refine At.a 3 ?_
  refine At.sL 8 encI a ?_
  refine At.a 1 ?_
  refine At.done rfl ?_
  refine AW.cD ((i : Int) < (a.length : Int)) (fun h1 => ?_) (fun h1 => ?_)
  · skip
    refine AW.skip ?_
    refine AW.seq ?_
    refine AW.block ?_
    refine AW.seq ?_
    refine AW.r ?_
    refine At.a 2 ?_
    refine At.iSl 25 14 (.tmp 12) (.tmp 13) false 1 (a.map encI) .i64 (i : Int) 3 (by omega) (by simp only [List.length_map, List.length_append, List.length_take, List.length_drop, List.length_replicate, List.length_set, List.length_cons, List.length_nil]; omega) ?_
    refine Exists.elim (show ∃ e, a[i]? = some e from ⟨_, List.getElem?_eq_getElem (by omega)⟩) fun e1 he1 => ?_
    refine At.lVp 3 15 (.tmp 14) false 1 (a.map encI) i 0 false 1 (encI e1) (.int .i64 e1) (mapGet he1) ?_
    refine At.a 2 ?_
    refine At.done rfl ?_
    refine AW.cU e1 kk (fun h2 => ?_) (fun h2 => ?_)
    · skip
      refine AW.r ?_
      refine At.a 1 ?_
      refine At.done rfl ?_
      refine AW.ret ?_
      refine ⟨_, Sub.refl _ _, ?_⟩
      refine KF.conv (fun w => .int .i64 w) (fun w => []) (show (-1) = (held okI nxI a k) from by rw [hR, dropCons he1, held, if_neg (by simp [okI, h1, h2])]) ?_
      exact KF.m [] [.int .i64 (-1)]
    · skip
      refine AW.skip ?_
      refine AW.region (At.start ?_)
      refine At.a 2 ?_
      refine At.sI 19 (kk + 1) (by omega) ?_
      refine At.a 1 ?_
      refine At.done rfl ?_
      refine AW.region (At.start ?_)
      refine At.a 2 ?_
      refine At.sI 11 ((i : Int) + 1) (by omega) ?_
      refine At.a 1 ?_
      refine At.done rfl ?_
      exact ⟨(i + 1, (kk + 1)), ⟨by omega, by omega, by omega, by rw [hR, dropCons he1, held, if_pos (by simp [okI, h1, h2])]; rfl⟩, (by simp only; omega), Sub.o [] [true, true, false, false, false, true]⟩
  · skip
    refine AW.exit ?_
    refine AW.r ?_
    refine At.a 2 ?_
    refine At.done rfl ?_
    refine AW.ret ?_
    refine ⟨_, Sub.refl _ _, ?_⟩
    refine KF.conv (fun w => .int .i64 w) (fun w => []) (show (kk) = (held okI nxI a k) from by rw [hR, List.drop_of_length_le (by omega)]; rfl) ?_
    exact KF.m [] [.int .i64 kk]
set_option maxRecDepth 100000 in
set_option maxHeartbeats 4000000 in
theorem laws_heldRaft_spec  (a : Raft) (k : Int) (hz : SmallR a) (hk : 0 ≤ k ∧ k ≤ 4611686017427387904) : FnSpec Try.prog 22 [.agg [.int .i64 a.id, .int .i64 a.of_, .int .i64 a.role, .int .i64 a.commit, .int .i64 a.hard.term, .int .i64 a.hard.vote, .sl false 6 (a.hard.log.map encEnt), .sl false 1 (a.yes.map encI), .sl false 1 (a.next.map encI), .sl false 1 (a.match_.map encI)], .int .i64 k] [] (.int .i64 (heldRaft a k)) [] := by
  obtain ⟨z1, z2, z3, z4⟩ := id hz
  refine FnSpec.of 30 Try.func22 rfl Try.ntmps22 (by simp) (AW.weakK ?_)
  refine AW.r ?_
  refine At.a 2 ?_
  refine At.done rfl ?_
  refine AW.r ?_
  refine At.a 3 ?_
  refine At.c (laws_heldHard_spec  a.hard k (by omega) (by omega)) Try.call61 true [] [] [] trivial ?_
  have hhh := heldE_le a.hard.log k (by omega)
  refine At.a 1 ?_
  refine At.done rfl ?_
  refine AW.seq ?_
  refine AW.r ?_
  refine At.a 2 ?_
  refine At.done rfl ?_
  refine AW.cD ((held okE nxE a.hard.log k) < 0) (fun h1 => ?_) (fun h1 => ?_)
  · skip
    refine AW.r ?_
    refine At.a 1 ?_
    refine At.done rfl ?_
    refine AW.ret ?_
    refine ⟨_, Sub.refl _ _, ?_⟩
    refine KF.conv (fun w => .int .i64 w) (fun w => []) (show (-1) = (heldRaft a k) from by unfold heldRaft; first | (simp [h1]; done) | (simp only [h1, if_false, if_true]; exact (held_neg nxI_ge (by omega) (by assumption)).symm)) ?_
    exact KF.m [] [.int .i64 (-1)]
  · skip
    refine AW.skip ?_
    refine AW.r ?_
    refine At.a 3 ?_
    refine At.c (laws_heldIntS_spec  a.yes (held okE nxE a.hard.log k) (by omega) (by omega)) Try.call62 true [] [] [] trivial ?_
    have hhi := heldI_le a.yes (held okE nxE a.hard.log k) (by omega)
    refine At.a 1 ?_
    refine At.done rfl ?_
    refine AW.seq ?_
    refine AW.r ?_
    refine At.a 2 ?_
    refine At.done rfl ?_
    refine AW.cD ((held okI nxI a.yes (held okE nxE a.hard.log k)) < 0) (fun h2 => ?_) (fun h2 => ?_)
    · skip
      refine AW.r ?_
      refine At.a 1 ?_
      refine At.done rfl ?_
      refine AW.ret ?_
      refine ⟨_, Sub.refl _ _, ?_⟩
      refine KF.conv (fun w => .int .i64 w) (fun w => []) (show (-1) = (heldRaft a k) from by unfold heldRaft; first | (simp [h1, h2]; done) | (simp only [h1, h2, if_false, if_true]; exact (held_neg nxI_ge (by omega) (by assumption)).symm)) ?_
      exact KF.m [] [.int .i64 (-1)]
    · skip
      refine AW.skip ?_
      refine AW.r ?_
      refine At.a 3 ?_
      refine At.c (laws_heldIntS_spec  a.next (held okI nxI a.yes (held okE nxE a.hard.log k)) (by omega) (by omega)) Try.call62 true [] [] [] trivial ?_
      have hhi := heldI_le a.next (held okI nxI a.yes (held okE nxE a.hard.log k)) (by omega)
      refine At.a 1 ?_
      refine At.done rfl ?_
      refine AW.seq ?_
      refine AW.r ?_
      refine At.a 2 ?_
      refine At.done rfl ?_
      refine AW.cD ((held okI nxI a.next (held okI nxI a.yes (held okE nxE a.hard.log k))) < 0) (fun h3 => ?_) (fun h3 => ?_)
      · skip
        refine AW.r ?_
        refine At.a 1 ?_
        refine At.done rfl ?_
        refine AW.ret ?_
        refine ⟨_, Sub.refl _ _, ?_⟩
        refine KF.conv (fun w => .int .i64 w) (fun w => []) (show (-1) = (heldRaft a k) from by unfold heldRaft; first | (simp [h1, h2, h3]; done) | (simp only [h1, h2, h3, if_false, if_true]; exact (held_neg nxI_ge (by omega) (by assumption)).symm)) ?_
        exact KF.m [] [.int .i64 (-1)]
      · skip
        refine AW.skip ?_
        refine AW.r ?_
        refine At.a 3 ?_
        refine At.c (laws_heldIntS_spec  a.match_ (held okI nxI a.next (held okI nxI a.yes (held okE nxE a.hard.log k))) (by omega) (by omega)) Try.call62 true [] [] [] trivial ?_
        have hhi := heldI_le a.match_ (held okI nxI a.next (held okI nxI a.yes (held okE nxE a.hard.log k))) (by omega)
        refine At.a 1 ?_
        refine At.done rfl ?_
        refine AW.seq ?_
        refine AW.r ?_
        refine At.a 2 ?_
        refine At.done rfl ?_
        refine AW.cD ((held okI nxI a.match_ (held okI nxI a.next (held okI nxI a.yes (held okE nxE a.hard.log k)))) < 0) (fun h4 => ?_) (fun h4 => ?_)
        · skip
          refine AW.r ?_
          refine At.a 1 ?_
          refine At.done rfl ?_
          refine AW.ret ?_
          refine ⟨_, Sub.refl _ _, ?_⟩
          refine KF.conv (fun w => .int .i64 w) (fun w => []) (show (-1) = (heldRaft a k) from by unfold heldRaft; first | (simp [h1, h2, h3, h4]; done) | (simp only [h1, h2, h3, h4, if_false, if_true]; exact (held_neg nxI_ge (by omega) (by assumption)).symm)) ?_
          exact KF.m [] [.int .i64 (-1)]
        · skip
          refine AW.skip ?_
          refine AW.r ?_
          refine At.a 2 ?_
          refine At.done rfl ?_
          refine AW.ret ?_
          refine ⟨_, Sub.refl _ _, ?_⟩
          refine KF.conv (fun w => .int .i64 w) (fun w => []) (show (held okI nxI a.match_ (held okI nxI a.next (held okI nxI a.yes (held okE nxE a.hard.log k)))) = (heldRaft a k) from by unfold heldRaft; first | (simp [h1, h2, h3, h4]; done) | (simp only [h1, h2, h3, h4, if_false, if_true]; exact (held_neg nxI_ge (by omega) (by assumption)).symm)) ?_
          exact KF.m [] [.int .i64 (held okI nxI a.match_ (held okI nxI a.next (held okI nxI a.yes (held okE nxE a.hard.log k))))]
set_option maxRecDepth 100000 in
set_option maxHeartbeats 4000000 in
theorem laws_heldRecS_spec  (a : List Rec) (k : Int) (ha : a.length ≤ 1048576) (hk : 0 ≤ k ∧ k + 20 * a.length ≤ 4611686018427387904) : FnSpec Try.prog 23 [.sl false 10 (a.map encRec), .int .i64 k] [] (.int .i64 (held okR nxR a k)) [] := by
  refine FnSpec.of 115 Try.func23 rfl Try.ntmps23 (by simp) (AW.weakK ?_)
  refine AW.r ?_
  refine At.a 1 ?_
  refine At.done rfl ?_
  refine AW.seq ?_
  refine AW.r ?_
  refine At.a 1 ?_
  refine At.done rfl ?_
  refine AW.block ?_
  refine AW.loopW (fun (x : Nat × Int) => match x with | (i, kk) => Go.Sy.mk [.sl false 10 (a.map encRec), .int .i64 kk, .un, .un, .un, .int .i64 (i : Int)] []) (fun (x : Nat × Int) => match x with | (i, kk) => i ≤ a.length ∧ 0 ≤ kk ∧ kk + 20 * ((a.length : Int) - i) ≤ 4611686018427387904 ∧ held okR nxR a k = held okR nxR (a.drop i) kk) (fun (x : Nat × Int) => match x with | (i, kk) => a.length - i) (0, k) ⟨by omega, by omega, by omega, by rw [List.drop_zero]⟩ (Sub.o [] [true, true, false, false, false, true]) ?_
  rintro ⟨i, kk⟩ ⟨hi, hkk, hkb, hR⟩
  refine AW.seq ?_
  refine AW.r ?_
  refine At.a 3 ?_
  refine At.sL 8 encRec a ?_
  refine At.a 1 ?_
  refine At.done rfl ?_
  refine AW.cD ((i : Int) < (a.length : Int)) (fun h1 => ?_) (fun h1 => ?_)
  · skip
    refine AW.skip ?_
    refine AW.seq ?_
    refine AW.block ?_
    refine AW.seq ?_
    refine AW.r ?_
    refine At.a 2 ?_
    refine At.iSl 45 14 (.tmp 12) (.tmp 13) false 10 (a.map encRec) .i64 (i : Int) 93 (by omega) (by simp only [List.length_map, List.length_append, List.length_take, List.length_drop, List.length_replicate, List.length_set, List.length_cons, List.length_nil]; omega) ?_
    refine At.a 1 ?_
    refine Exists.elim (show ∃ e, a[i]? = some e from ⟨_, List.getElem?_eq_getElem (by omega)⟩) fun e1 he1 => ?_
    refine At.lVp 3 16 (.tmp 15) false 10 (a.map encRec) i 0 false 1 (encRec e1) (.int .i64 e1.kind) (mapGet he1) ?_
    refine At.a 2 ?_
    refine At.done rfl ?_
    refine AW.cU e1.kind kk (fun h2 => ?_) (fun h2 => ?_)
    · skip
      refine AW.r ?_
      refine At.a 1 ?_
      refine At.done rfl ?_
      refine AW.ret ?_
      refine ⟨_, Sub.refl _ _, ?_⟩
      refine KF.conv (fun w => .int .i64 w) (fun w => []) (show (-1) = (held okR nxR a k) from by rw [hR, dropCons he1, held, if_neg (by simp [okR, h1, h2])]) ?_
      exact KF.m [] [.int .i64 (-1)]
    · skip
      refine AW.skip ?_
      refine AW.r ?_
      refine At.a 2 ?_
      refine At.sI 20 (kk + 1) (by omega) ?_
      refine At.a 1 ?_
      refine At.done rfl ?_
      refine AW.seq ?_
      refine AW.r ?_
      refine At.a 2 ?_
      refine At.iSl 45 23 (.tmp 21) (.tmp 22) false 10 (a.map encRec) .i64 (i : Int) 93 (by omega) (by simp only [List.length_map, List.length_append, List.length_take, List.length_drop, List.length_replicate, List.length_set, List.length_cons, List.length_nil]; omega) ?_
      refine At.a 1 ?_
      refine At.lVp 3 25 (.tmp 24) false 10 (a.map encRec) i 1 false 1 (encRec e1) (.int .i64 e1.term) (mapGet he1) ?_
      refine At.a 2 ?_
      refine At.done rfl ?_
      refine AW.cU e1.term (kk + 1) (fun h3 => ?_) (fun h3 => ?_)
      · skip
        refine AW.r ?_
        refine At.a 1 ?_
        refine At.done rfl ?_
        refine AW.ret ?_
        refine ⟨_, Sub.refl _ _, ?_⟩
        refine KF.conv (fun w => .int .i64 w) (fun w => []) (show (-1) = (held okR nxR a k) from by rw [hR, dropCons he1, held, if_neg (by simp [okR, h1, h2, h3])]) ?_
        exact KF.m [] [.int .i64 (-1)]
      · skip
        refine AW.skip ?_
        refine AW.r ?_
        refine At.a 2 ?_
        refine At.sJ 29 ((kk + 1) + 1) (kk + 2) (by omega) (by omega) ?_
        refine At.a 1 ?_
        refine At.done rfl ?_
        refine AW.seq ?_
        refine AW.r ?_
        refine At.a 2 ?_
        refine At.iSl 45 32 (.tmp 30) (.tmp 31) false 10 (a.map encRec) .i64 (i : Int) 93 (by omega) (by simp only [List.length_map, List.length_append, List.length_take, List.length_drop, List.length_replicate, List.length_set, List.length_cons, List.length_nil]; omega) ?_
        refine At.a 1 ?_
        refine At.lVp 3 34 (.tmp 33) false 10 (a.map encRec) i 2 false 1 (encRec e1) (.int .i64 e1.vote) (mapGet he1) ?_
        refine At.a 2 ?_
        refine At.done rfl ?_
        refine AW.cU e1.vote (kk + 2) (fun h4 => ?_) (fun h4 => ?_)
        · skip
          refine AW.r ?_
          refine At.a 1 ?_
          refine At.done rfl ?_
          refine AW.ret ?_
          refine ⟨_, Sub.refl _ _, ?_⟩
          refine KF.conv (fun w => .int .i64 w) (fun w => []) (show (-1) = (held okR nxR a k) from by rw [hR, dropCons he1, held, if_neg (by simp [okR, h1, h2, h3, h4])]) ?_
          exact KF.m [] [.int .i64 (-1)]
        · skip
          refine AW.skip ?_
          refine AW.r ?_
          refine At.a 2 ?_
          refine At.sJ 38 ((kk + 2) + 1) (kk + 3) (by omega) (by omega) ?_
          refine At.a 1 ?_
          refine At.done rfl ?_
          refine AW.seq ?_
          refine AW.r ?_
          refine At.a 2 ?_
          refine At.iSl 45 41 (.tmp 39) (.tmp 40) false 10 (a.map encRec) .i64 (i : Int) 93 (by omega) (by simp only [List.length_map, List.length_append, List.length_take, List.length_drop, List.length_replicate, List.length_set, List.length_cons, List.length_nil]; omega) ?_
          refine At.a 1 ?_
          refine At.lVp 3 43 (.tmp 42) false 10 (a.map encRec) i 3 false 1 (encRec e1) (.int .i64 e1.at_) (mapGet he1) ?_
          refine At.a 2 ?_
          refine At.done rfl ?_
          refine AW.cU e1.at_ (kk + 3) (fun h5 => ?_) (fun h5 => ?_)
          · skip
            refine AW.r ?_
            refine At.a 1 ?_
            refine At.done rfl ?_
            refine AW.ret ?_
            refine ⟨_, Sub.refl _ _, ?_⟩
            refine KF.conv (fun w => .int .i64 w) (fun w => []) (show (-1) = (held okR nxR a k) from by rw [hR, dropCons he1, held, if_neg (by simp [okR, h1, h2, h3, h4, h5])]) ?_
            exact KF.m [] [.int .i64 (-1)]
          · skip
            refine AW.skip ?_
            refine AW.r ?_
            refine At.a 2 ?_
            refine At.sJ 47 ((kk + 3) + 1) (kk + 4) (by omega) (by omega) ?_
            refine At.a 1 ?_
            refine At.done rfl ?_
            refine AW.seq ?_
            refine AW.r ?_
            refine At.a 2 ?_
            refine At.iSl 45 50 (.tmp 48) (.tmp 49) false 10 (a.map encRec) .i64 (i : Int) 93 (by omega) (by simp only [List.length_map, List.length_append, List.length_take, List.length_drop, List.length_replicate, List.length_set, List.length_cons, List.length_nil]; omega) ?_
            refine At.a 2 ?_
            refine At.lVp 3 53 (.tmp 52) false 10 (a.map encRec) i 4 false 1 (encRec e1) (.int .i64 e1.entry.term) (mapGet he1) ?_
            refine At.a 2 ?_
            refine At.done rfl ?_
            refine AW.cU e1.entry.term (kk + 4) (fun h6 => ?_) (fun h6 => ?_)
            · skip
              refine AW.r ?_
              refine At.a 1 ?_
              refine At.done rfl ?_
              refine AW.ret ?_
              refine ⟨_, Sub.refl _ _, ?_⟩
              refine KF.conv (fun w => .int .i64 w) (fun w => []) (show (-1) = (held okR nxR a k) from by rw [hR, dropCons he1, held, if_neg (by simp [okR, h1, h2, h3, h4, h5, h6])]) ?_
              exact KF.m [] [.int .i64 (-1)]
            · skip
              refine AW.skip ?_
              refine AW.r ?_
              refine At.a 2 ?_
              refine At.sJ 57 ((kk + 4) + 1) (kk + 5) (by omega) (by omega) ?_
              refine At.a 1 ?_
              refine At.done rfl ?_
              refine AW.seq ?_
              refine AW.r ?_
              refine At.a 2 ?_
              refine At.iSl 45 60 (.tmp 58) (.tmp 59) false 10 (a.map encRec) .i64 (i : Int) 93 (by omega) (by simp only [List.length_map, List.length_append, List.length_take, List.length_drop, List.length_replicate, List.length_set, List.length_cons, List.length_nil]; omega) ?_
              refine At.a 3 ?_
              refine At.lVp 3 64 (.tmp 63) false 10 (a.map encRec) i 5 false 1 (encRec e1) (.int .i64 e1.entry.cmd.kind) (mapGet he1) ?_
              refine At.a 2 ?_
              refine At.done rfl ?_
              refine AW.cU e1.entry.cmd.kind (kk + 5) (fun h7 => ?_) (fun h7 => ?_)
              · skip
                refine AW.r ?_
                refine At.a 1 ?_
                refine At.done rfl ?_
                refine AW.ret ?_
                refine ⟨_, Sub.refl _ _, ?_⟩
                refine KF.conv (fun w => .int .i64 w) (fun w => []) (show (-1) = (held okR nxR a k) from by rw [hR, dropCons he1, held, if_neg (by simp [okR, h1, h2, h3, h4, h5, h6, h7])]) ?_
                exact KF.m [] [.int .i64 (-1)]
              · skip
                refine AW.skip ?_
                refine AW.r ?_
                refine At.a 2 ?_
                refine At.sJ 68 ((kk + 5) + 1) (kk + 6) (by omega) (by omega) ?_
                refine At.a 1 ?_
                refine At.done rfl ?_
                refine AW.seq ?_
                refine AW.r ?_
                refine At.a 2 ?_
                refine At.iSl 45 71 (.tmp 69) (.tmp 70) false 10 (a.map encRec) .i64 (i : Int) 93 (by omega) (by simp only [List.length_map, List.length_append, List.length_take, List.length_drop, List.length_replicate, List.length_set, List.length_cons, List.length_nil]; omega) ?_
                refine At.a 3 ?_
                refine At.lVp 3 75 (.tmp 74) false 10 (a.map encRec) i 6 false 1 (encRec e1) (.int .i64 e1.entry.cmd.release) (mapGet he1) ?_
                refine At.a 2 ?_
                refine At.done rfl ?_
                refine AW.cU e1.entry.cmd.release (kk + 6) (fun h8 => ?_) (fun h8 => ?_)
                · skip
                  refine AW.r ?_
                  refine At.a 1 ?_
                  refine At.done rfl ?_
                  refine AW.ret ?_
                  refine ⟨_, Sub.refl _ _, ?_⟩
                  refine KF.conv (fun w => .int .i64 w) (fun w => []) (show (-1) = (held okR nxR a k) from by rw [hR, dropCons he1, held, if_neg (by simp [okR, h1, h2, h3, h4, h5, h6, h7, h8])]) ?_
                  exact KF.m [] [.int .i64 (-1)]
                · skip
                  refine AW.skip ?_
                  refine AW.r ?_
                  refine At.a 2 ?_
                  refine At.sJ 79 ((kk + 6) + 1) (kk + 7) (by omega) (by omega) ?_
                  refine At.a 1 ?_
                  refine At.done rfl ?_
                  refine AW.seq ?_
                  refine AW.r ?_
                  refine At.a 2 ?_
                  refine At.iSl 45 82 (.tmp 80) (.tmp 81) false 10 (a.map encRec) .i64 (i : Int) 93 (by omega) (by simp only [List.length_map, List.length_append, List.length_take, List.length_drop, List.length_replicate, List.length_set, List.length_cons, List.length_nil]; omega) ?_
                  refine At.a 3 ?_
                  refine At.lVp 3 86 (.tmp 85) false 10 (a.map encRec) i 7 false 1 (encRec e1) (.int .i64 e1.entry.cmd.node) (mapGet he1) ?_
                  refine At.a 2 ?_
                  refine At.done rfl ?_
                  refine AW.cU e1.entry.cmd.node (kk + 7) (fun h9 => ?_) (fun h9 => ?_)
                  · skip
                    refine AW.r ?_
                    refine At.a 1 ?_
                    refine At.done rfl ?_
                    refine AW.ret ?_
                    refine ⟨_, Sub.refl _ _, ?_⟩
                    refine KF.conv (fun w => .int .i64 w) (fun w => []) (show (-1) = (held okR nxR a k) from by rw [hR, dropCons he1, held, if_neg (by simp [okR, h1, h2, h3, h4, h5, h6, h7, h8, h9])]) ?_
                    exact KF.m [] [.int .i64 (-1)]
                  · skip
                    refine AW.skip ?_
                    refine AW.r ?_
                    refine At.a 2 ?_
                    refine At.sJ 90 ((kk + 7) + 1) (kk + 8) (by omega) (by omega) ?_
                    refine At.a 1 ?_
                    refine At.done rfl ?_
                    refine AW.seq ?_
                    refine AW.r ?_
                    refine At.a 2 ?_
                    refine At.iSl 45 93 (.tmp 91) (.tmp 92) false 10 (a.map encRec) .i64 (i : Int) 93 (by omega) (by simp only [List.length_map, List.length_append, List.length_take, List.length_drop, List.length_replicate, List.length_set, List.length_cons, List.length_nil]; omega) ?_
                    refine At.a 3 ?_
                    refine At.lVp 3 97 (.tmp 96) false 10 (a.map encRec) i 8 false 1 (encRec e1) (.int .i64 e1.entry.cmd.size) (mapGet he1) ?_
                    refine At.a 2 ?_
                    refine At.done rfl ?_
                    refine AW.cU e1.entry.cmd.size (kk + 8) (fun h10 => ?_) (fun h10 => ?_)
                    · skip
                      refine AW.r ?_
                      refine At.a 1 ?_
                      refine At.done rfl ?_
                      refine AW.ret ?_
                      refine ⟨_, Sub.refl _ _, ?_⟩
                      refine KF.conv (fun w => .int .i64 w) (fun w => []) (show (-1) = (held okR nxR a k) from by rw [hR, dropCons he1, held, if_neg (by simp [okR, h1, h2, h3, h4, h5, h6, h7, h8, h9, h10])]) ?_
                      exact KF.m [] [.int .i64 (-1)]
                    · skip
                      refine AW.skip ?_
                      refine AW.r ?_
                      refine At.a 2 ?_
                      refine At.sJ 101 ((kk + 8) + 1) (kk + 9) (by omega) (by omega) ?_
                      refine At.a 1 ?_
                      refine At.done rfl ?_
                      refine AW.seq ?_
                      refine AW.seq ?_
                      refine AW.regionD Try_mix (At.start ?_)
                      refine At.a 2 ?_
                      refine At.iSl 45 104 (.tmp 102) (.tmp 103) false 10 (a.map encRec) .i64 (i : Int) 93 (by omega) (by simp only [List.length_map, List.length_append, List.length_take, List.length_drop, List.length_replicate, List.length_set, List.length_cons, List.length_nil]; omega) ?_
                      refine At.a 3 ?_
                      refine At.lVp 9 108 (.tmp 107) false 10 (a.map encRec) i 9 false 1 (encRec e1) (.str e1.entry.cmd.digest) (mapGet he1) ?_
                      refine At.a 1 ?_
                      refine At.c (laws_markText_spec  (kk + 9) (by omega)) Try.call48 true [] [] [] trivial ?_
                      refine At.a 1 ?_
                      refine At.done rfl ⟨by kernel_rfl, ?_⟩
                      refine AW.cNE (e1.entry.cmd.digest.toList) ((markT (kk + 9)).toList) (fun h11 => ?_) (fun h11 => ?_)
                      · skip
                        refine AW.r ?_
                        refine At.a 1 ?_
                        refine At.done rfl ?_
                        refine AW.ret ?_
                        refine ⟨_, Sub.refl _ _, ?_⟩
                        refine KF.conv (fun w => .int .i64 w) (fun w => []) (show (-1) = (held okR nxR a k) from by rw [hR, dropCons he1, held, if_neg (by simp [okR, h1, h2, h3, h4, h5, h6, h7, h8, h9, h10, h11])]) ?_
                        exact KF.m [] [.int .i64 (-1)]
                      · skip
                        refine AW.skip ?_
                        refine AW.region (At.start ?_)
                        refine At.a 2 ?_
                        refine At.sJ 113 ((kk + 9) + 1) (kk + 10) (by omega) (by omega) ?_
                        refine At.a 1 ?_
                        refine At.done rfl ?_
                        refine AW.region (At.start ?_)
                        refine At.a 2 ?_
                        refine At.sI 11 ((i : Int) + 1) (by omega) ?_
                        refine At.a 1 ?_
                        refine At.done rfl ?_
                        exact ⟨(i + 1, (kk + 10)), ⟨by omega, by omega, by omega, by rw [hR, dropCons he1, held, if_pos (by simp [okR, h1, h2, h3, h4, h5, h6, h7, h8, h9, h10, h11])]; rfl⟩, (by simp only; omega), Sub.o [] [true, true, false, false, false, true]⟩
  · skip
    refine AW.exit ?_
    refine AW.r ?_
    refine At.a 2 ?_
    refine At.done rfl ?_
    refine AW.ret ?_
    refine ⟨_, Sub.refl _ _, ?_⟩
    refine KF.conv (fun w => .int .i64 w) (fun w => []) (show (kk) = (held okR nxR a k) from by rw [hR, List.drop_of_length_le (by omega)]; rfl) ?_
    exact KF.m [] [.int .i64 kk]
set_option maxRecDepth 100000 in
set_option maxHeartbeats 4000000 in
theorem laws_heldOutS_spec  (a : List Out) (k : Int) (ha : FewOuts a) (hk : 0 ≤ k ∧ k ≤ 4611686017427387904) : FnSpec Try.prog 15 [.sl false 17 (a.map encOutV), .int .i64 k] [] (.int .i64 (heldO a k)) [] := by
  obtain ⟨ha1, ha2⟩ := id ha
  refine FnSpec.of 191 Try.func15 rfl Try.ntmps15 (by simp) (AW.weakK ?_)
  refine AW.r ?_
  refine At.a 1 ?_
  refine At.done rfl ?_
  refine AW.seq ?_
  refine AW.r ?_
  refine At.a 1 ?_
  refine At.done rfl ?_
  refine AW.block ?_
  refine AW.loopW (fun (x : Nat × Int) => match x with | (i, kk) => Go.Sy.mk [.sl false 17 (a.map encOutV), .int .i64 kk, .un, .un, .un, .int .i64 (i : Int)] []) (fun (x : Nat × Int) => match x with | (i, kk) => i ≤ a.length ∧ 0 ≤ kk ∧ kk ≤ k + 1000 * i ∧ heldO a k = heldO (a.drop i) kk) (fun (x : Nat × Int) => match x with | (i, kk) => a.length - i) (0, k) ⟨by omega, by omega, by omega, by rw [List.drop_zero]⟩ (Sub.o [] [true, true, false, false, false, true]) ?_
  rintro ⟨i, kk⟩ ⟨hi, hkk, hkb, hR⟩
  refine AW.seq ?_
  refine AW.r ?_
  refine At.a 3 ?_
  refine At.sL 8 encOutV a ?_
  refine At.a 1 ?_
  refine At.done rfl ?_
  refine AW.cD ((i : Int) < (a.length : Int)) (fun h1 => ?_) (fun h1 => ?_)
  · skip
    refine AW.skip ?_
    refine AW.seq ?_
    refine AW.block ?_
    refine AW.seq ?_
    refine AW.r ?_
    refine At.a 2 ?_
    refine At.iSl 29 14 (.tmp 12) (.tmp 13) false 17 (a.map encOutV) .i64 (i : Int) 76 (by omega) (by simp only [List.length_map, List.length_append, List.length_take, List.length_drop, List.length_replicate, List.length_set, List.length_cons, List.length_nil]; omega) ?_
    refine At.a 1 ?_
    refine Exists.elim (show ∃ e, a[i]? = some e from ⟨_, List.getElem?_eq_getElem (by omega)⟩) fun e1 he1 => ?_
    have hen := ha2 _ (List.mem_of_getElem? he1)
    refine At.lVp 3 16 (.tmp 15) false 17 (a.map encOutV) i 0 false 1 (encOutV e1) (.int .i64 e1.to) (mapGet he1) ?_
    refine At.a 2 ?_
    refine At.done rfl ?_
    refine AW.cU e1.to kk (fun h2 => ?_) (fun h2 => ?_)
    · skip
      refine AW.r ?_
      refine At.a 1 ?_
      refine At.done rfl ?_
      refine AW.ret ?_
      refine ⟨_, Sub.refl _ _, ?_⟩
      refine KF.conv (fun w => .int .i64 w) (fun w => []) (show (-1) = (heldO a k) from by rw [hR, dropCons he1, heldO, if_neg (by simp [okM, h1, h2])]) ?_
      exact KF.m [] [.int .i64 (-1)]
    · skip
      refine AW.skip ?_
      refine AW.r ?_
      refine At.a 2 ?_
      refine At.sI 20 (kk + 1) (by omega) ?_
      refine At.a 1 ?_
      refine At.done rfl ?_
      refine AW.seq ?_
      refine AW.r ?_
      refine At.a 2 ?_
      refine At.iSl 29 23 (.tmp 21) (.tmp 22) false 17 (a.map encOutV) .i64 (i : Int) 76 (by omega) (by simp only [List.length_map, List.length_append, List.length_take, List.length_drop, List.length_replicate, List.length_set, List.length_cons, List.length_nil]; omega) ?_
      refine At.a 2 ?_
      refine At.lVp 3 26 (.tmp 25) false 17 (a.map encOutV) i 1 false 1 (encOutV e1) (.int .i64 e1.msg.kind) (mapGet he1) ?_
      refine At.a 2 ?_
      refine At.done rfl ?_
      refine AW.cU e1.msg.kind (kk + 1) (fun h3 => ?_) (fun h3 => ?_)
      · skip
        refine AW.r ?_
        refine At.a 1 ?_
        refine At.done rfl ?_
        refine AW.ret ?_
        refine ⟨_, Sub.refl _ _, ?_⟩
        refine KF.conv (fun w => .int .i64 w) (fun w => []) (show (-1) = (heldO a k) from by rw [hR, dropCons he1, heldO, if_neg (by simp [okM, h1, h2, h3])]) ?_
        exact KF.m [] [.int .i64 (-1)]
      · skip
        refine AW.skip ?_
        refine AW.r ?_
        refine At.a 2 ?_
        refine At.sJ 30 ((kk + 1) + 1) (kk + 2) (by omega) (by omega) ?_
        refine At.a 1 ?_
        refine At.done rfl ?_
        refine AW.seq ?_
        refine AW.r ?_
        refine At.a 2 ?_
        refine At.iSl 29 33 (.tmp 31) (.tmp 32) false 17 (a.map encOutV) .i64 (i : Int) 76 (by omega) (by simp only [List.length_map, List.length_append, List.length_take, List.length_drop, List.length_replicate, List.length_set, List.length_cons, List.length_nil]; omega) ?_
        refine At.a 2 ?_
        refine At.lVp 3 36 (.tmp 35) false 17 (a.map encOutV) i 2 false 1 (encOutV e1) (.int .i64 e1.msg.from_) (mapGet he1) ?_
        refine At.a 2 ?_
        refine At.done rfl ?_
        refine AW.cU e1.msg.from_ (kk + 2) (fun h4 => ?_) (fun h4 => ?_)
        · skip
          refine AW.r ?_
          refine At.a 1 ?_
          refine At.done rfl ?_
          refine AW.ret ?_
          refine ⟨_, Sub.refl _ _, ?_⟩
          refine KF.conv (fun w => .int .i64 w) (fun w => []) (show (-1) = (heldO a k) from by rw [hR, dropCons he1, heldO, if_neg (by simp [okM, h1, h2, h3, h4])]) ?_
          exact KF.m [] [.int .i64 (-1)]
        · skip
          refine AW.skip ?_
          refine AW.r ?_
          refine At.a 2 ?_
          refine At.sJ 40 ((kk + 2) + 1) (kk + 3) (by omega) (by omega) ?_
          refine At.a 1 ?_
          refine At.done rfl ?_
          refine AW.seq ?_
          refine AW.r ?_
          refine At.a 2 ?_
          refine At.iSl 29 43 (.tmp 41) (.tmp 42) false 17 (a.map encOutV) .i64 (i : Int) 76 (by omega) (by simp only [List.length_map, List.length_append, List.length_take, List.length_drop, List.length_replicate, List.length_set, List.length_cons, List.length_nil]; omega) ?_
          refine At.a 2 ?_
          refine At.lVp 3 46 (.tmp 45) false 17 (a.map encOutV) i 3 false 1 (encOutV e1) (.int .i64 e1.msg.term) (mapGet he1) ?_
          refine At.a 2 ?_
          refine At.done rfl ?_
          refine AW.cU e1.msg.term (kk + 3) (fun h5 => ?_) (fun h5 => ?_)
          · skip
            refine AW.r ?_
            refine At.a 1 ?_
            refine At.done rfl ?_
            refine AW.ret ?_
            refine ⟨_, Sub.refl _ _, ?_⟩
            refine KF.conv (fun w => .int .i64 w) (fun w => []) (show (-1) = (heldO a k) from by rw [hR, dropCons he1, heldO, if_neg (by simp [okM, h1, h2, h3, h4, h5])]) ?_
            exact KF.m [] [.int .i64 (-1)]
          · skip
            refine AW.skip ?_
            refine AW.r ?_
            refine At.a 2 ?_
            refine At.sJ 50 ((kk + 3) + 1) (kk + 4) (by omega) (by omega) ?_
            refine At.a 1 ?_
            refine At.done rfl ?_
            refine AW.seq ?_
            refine AW.r ?_
            refine At.a 2 ?_
            refine At.iSl 29 53 (.tmp 51) (.tmp 52) false 17 (a.map encOutV) .i64 (i : Int) 76 (by omega) (by simp only [List.length_map, List.length_append, List.length_take, List.length_drop, List.length_replicate, List.length_set, List.length_cons, List.length_nil]; omega) ?_
            refine At.a 2 ?_
            refine At.lVp 3 56 (.tmp 55) false 17 (a.map encOutV) i 4 false 1 (encOutV e1) (.int .i64 e1.msg.at_) (mapGet he1) ?_
            refine At.a 2 ?_
            refine At.done rfl ?_
            refine AW.cU e1.msg.at_ (kk + 4) (fun h6 => ?_) (fun h6 => ?_)
            · skip
              refine AW.r ?_
              refine At.a 1 ?_
              refine At.done rfl ?_
              refine AW.ret ?_
              refine ⟨_, Sub.refl _ _, ?_⟩
              refine KF.conv (fun w => .int .i64 w) (fun w => []) (show (-1) = (heldO a k) from by rw [hR, dropCons he1, heldO, if_neg (by simp [okM, h1, h2, h3, h4, h5, h6])]) ?_
              exact KF.m [] [.int .i64 (-1)]
            · skip
              refine AW.skip ?_
              refine AW.r ?_
              refine At.a 2 ?_
              refine At.sJ 60 ((kk + 4) + 1) (kk + 5) (by omega) (by omega) ?_
              refine At.a 1 ?_
              refine At.done rfl ?_
              refine AW.seq ?_
              refine AW.r ?_
              refine At.a 2 ?_
              refine At.iSl 29 63 (.tmp 61) (.tmp 62) false 17 (a.map encOutV) .i64 (i : Int) 76 (by omega) (by simp only [List.length_map, List.length_append, List.length_take, List.length_drop, List.length_replicate, List.length_set, List.length_cons, List.length_nil]; omega) ?_
              refine At.a 2 ?_
              refine At.lVp 3 66 (.tmp 65) false 17 (a.map encOutV) i 5 false 1 (encOutV e1) (.int .i64 e1.msg.atTerm) (mapGet he1) ?_
              refine At.a 2 ?_
              refine At.done rfl ?_
              refine AW.cU e1.msg.atTerm (kk + 5) (fun h7 => ?_) (fun h7 => ?_)
              · skip
                refine AW.r ?_
                refine At.a 1 ?_
                refine At.done rfl ?_
                refine AW.ret ?_
                refine ⟨_, Sub.refl _ _, ?_⟩
                refine KF.conv (fun w => .int .i64 w) (fun w => []) (show (-1) = (heldO a k) from by rw [hR, dropCons he1, heldO, if_neg (by simp [okM, h1, h2, h3, h4, h5, h6, h7])]) ?_
                exact KF.m [] [.int .i64 (-1)]
              · skip
                refine AW.skip ?_
                refine AW.r ?_
                refine At.a 2 ?_
                refine At.sJ 70 ((kk + 5) + 1) (kk + 6) (by omega) (by omega) ?_
                refine At.a 1 ?_
                refine At.done rfl ?_
                refine AW.seq ?_
                refine AW.r ?_
                refine At.a 2 ?_
                refine At.iSl 29 73 (.tmp 71) (.tmp 72) false 17 (a.map encOutV) .i64 (i : Int) 76 (by omega) (by simp only [List.length_map, List.length_append, List.length_take, List.length_drop, List.length_replicate, List.length_set, List.length_cons, List.length_nil]; omega) ?_
                refine At.a 2 ?_
                refine At.lVp 3 76 (.tmp 75) false 17 (a.map encOutV) i 6 false 1 (encOutV e1) (.int .i64 e1.msg.commit) (mapGet he1) ?_
                refine At.a 2 ?_
                refine At.done rfl ?_
                refine AW.cU e1.msg.commit (kk + 6) (fun h8 => ?_) (fun h8 => ?_)
                · skip
                  refine AW.r ?_
                  refine At.a 1 ?_
                  refine At.done rfl ?_
                  refine AW.ret ?_
                  refine ⟨_, Sub.refl _ _, ?_⟩
                  refine KF.conv (fun w => .int .i64 w) (fun w => []) (show (-1) = (heldO a k) from by rw [hR, dropCons he1, heldO, if_neg (by simp [okM, h1, h2, h3, h4, h5, h6, h7, h8])]) ?_
                  exact KF.m [] [.int .i64 (-1)]
                · skip
                  refine AW.skip ?_
                  refine AW.r ?_
                  refine At.a 2 ?_
                  refine At.sJ 80 ((kk + 6) + 1) (kk + 7) (by omega) (by omega) ?_
                  refine At.a 1 ?_
                  refine At.done rfl ?_
                  refine AW.seq ?_
                  refine AW.r ?_
                  refine At.a 2 ?_
                  refine At.iSl 29 83 (.tmp 81) (.tmp 82) false 17 (a.map encOutV) .i64 (i : Int) 76 (by omega) (by simp only [List.length_map, List.length_append, List.length_take, List.length_drop, List.length_replicate, List.length_set, List.length_cons, List.length_nil]; omega) ?_
                  refine At.a 2 ?_
                  refine At.lVp 4 86 (.tmp 85) false 17 (a.map encOutV) i 7 false 1 (encOutV e1) (.bool e1.msg.yes) (mapGet he1) ?_
                  refine At.a 1 ?_
                  refine At.div (t := 3) (u := 3) (d := 88) (op := .rem) (x := .tmp 87) (y := .const (.int .i64 3)) (kd := .i64) (a := kk + 7) (b := 3) (by kernel_rfl) (by kernel_rfl) (by kernel_rfl) (by kernel_rfl) (by omega) (.int .i64 ((kk + 7).tmod 3)) (.inr ⟨rfl, rfl⟩) ?_
                  refine At.say 88 (.int .i64 ((kk + 7).tmod 3)) (.int .i64 ((kk + 7) % 3)) (by kernel_rfl) (sayRem (by omega)) ?_
                  refine At.a 1 ?_
                  refine At.eqB (t := 4) (u := 4) (d := 90) (op := .neq) (x := .tmp 86) (y := .tmp 89) (a := e1.msg.yes) (b := (((kk + 7) % 3) == 0)) (by kernel_rfl) (by kernel_rfl) (by kernel_rfl) (by kernel_rfl) (by kernel_rfl) (.bool (!(e1.msg.yes == (((kk + 7) % 3) == 0)))) (.inr ⟨rfl, rfl⟩) ?_
                  refine At.done rfl ?_
                  refine AW.cNB (e1.msg.yes == (((kk + 7) % 3) == 0)) (fun h9 => ?_) (fun h9 => ?_)
                  · skip
                    refine AW.r ?_
                    refine At.a 1 ?_
                    refine At.done rfl ?_
                    refine AW.ret ?_
                    refine ⟨_, Sub.refl _ _, ?_⟩
                    refine KF.conv (fun w => .int .i64 w) (fun w => []) (show (-1) = (heldO a k) from by rw [hR, dropCons he1, heldO, if_neg (by simp [okM, h1, h2, h3, h4, h5, h6, h7, h8, h9])]) ?_
                    exact KF.m [] [.int .i64 (-1)]
                  · skip
                    refine AW.skip ?_
                    refine AW.r ?_
                    refine At.a 2 ?_
                    refine At.sJ 92 ((kk + 7) + 1) (kk + 8) (by omega) (by omega) ?_
                    refine At.a 1 ?_
                    refine At.done rfl ?_
                    refine AW.seq ?_
                    refine AW.r ?_
                    refine At.a 2 ?_
                    refine At.iSl 29 95 (.tmp 93) (.tmp 94) false 17 (a.map encOutV) .i64 (i : Int) 76 (by omega) (by simp only [List.length_map, List.length_append, List.length_take, List.length_drop, List.length_replicate, List.length_set, List.length_cons, List.length_nil]; omega) ?_
                    refine At.a 2 ?_
                    refine At.lVp 3 98 (.tmp 97) false 17 (a.map encOutV) i 8 false 1 (encOutV e1) (.int .i64 e1.msg.release) (mapGet he1) ?_
                    refine At.a 2 ?_
                    refine At.done rfl ?_
                    refine AW.cU e1.msg.release (kk + 8) (fun h10 => ?_) (fun h10 => ?_)
                    · skip
                      refine AW.r ?_
                      refine At.a 1 ?_
                      refine At.done rfl ?_
                      refine AW.ret ?_
                      refine ⟨_, Sub.refl _ _, ?_⟩
                      refine KF.conv (fun w => .int .i64 w) (fun w => []) (show (-1) = (heldO a k) from by rw [hR, dropCons he1, heldO, if_neg (by simp [okM, h1, h2, h3, h4, h5, h6, h7, h8, h9, h10])]) ?_
                      exact KF.m [] [.int .i64 (-1)]
                    · skip
                      refine AW.skip ?_
                      refine AW.r ?_
                      refine At.a 2 ?_
                      refine At.sJ 102 ((kk + 8) + 1) (kk + 9) (by omega) (by omega) ?_
                      refine At.a 1 ?_
                      refine At.done rfl ?_
                      refine AW.seq ?_
                      refine AW.r ?_
                      refine At.a 2 ?_
                      refine At.iSl 29 105 (.tmp 103) (.tmp 104) false 17 (a.map encOutV) .i64 (i : Int) 76 (by omega) (by simp only [List.length_map, List.length_append, List.length_take, List.length_drop, List.length_replicate, List.length_set, List.length_cons, List.length_nil]; omega) ?_
                      refine At.a 2 ?_
                      refine At.lVp 3 108 (.tmp 107) false 17 (a.map encOutV) i 9 false 1 (encOutV e1) (.int .i64 e1.msg.part) (mapGet he1) ?_
                      refine At.a 2 ?_
                      refine At.done rfl ?_
                      refine AW.cU e1.msg.part (kk + 9) (fun h11 => ?_) (fun h11 => ?_)
                      · skip
                        refine AW.r ?_
                        refine At.a 1 ?_
                        refine At.done rfl ?_
                        refine AW.ret ?_
                        refine ⟨_, Sub.refl _ _, ?_⟩
                        refine KF.conv (fun w => .int .i64 w) (fun w => []) (show (-1) = (heldO a k) from by rw [hR, dropCons he1, heldO, if_neg (by simp [okM, h1, h2, h3, h4, h5, h6, h7, h8, h9, h10, h11])]) ?_
                        exact KF.m [] [.int .i64 (-1)]
                      · skip
                        refine AW.skip ?_
                        refine AW.r ?_
                        refine At.a 2 ?_
                        refine At.sJ 112 ((kk + 9) + 1) (kk + 10) (by omega) (by omega) ?_
                        refine At.a 1 ?_
                        refine At.done rfl ?_
                        refine AW.seq ?_
                        refine AW.seq ?_
                        refine AW.regionD Try_mix (At.start ?_)
                        refine At.a 2 ?_
                        refine At.iSl 29 115 (.tmp 113) (.tmp 114) false 17 (a.map encOutV) .i64 (i : Int) 76 (by omega) (by simp only [List.length_map, List.length_append, List.length_take, List.length_drop, List.length_replicate, List.length_set, List.length_cons, List.length_nil]; omega) ?_
                        refine At.a 2 ?_
                        refine At.lVp 9 118 (.tmp 117) false 17 (a.map encOutV) i 10 false 1 (encOutV e1) (.str e1.msg.bytes) (mapGet he1) ?_
                        refine At.a 1 ?_
                        refine At.c (laws_markText_spec  (kk + 10) (by omega)) Try.call48 true [] [] [] trivial ?_
                        refine At.a 1 ?_
                        refine At.done rfl ⟨by kernel_rfl, ?_⟩
                        refine AW.cNE (e1.msg.bytes.toList) ((markT (kk + 10)).toList) (fun h12 => ?_) (fun h12 => ?_)
                        · skip
                          refine AW.r ?_
                          refine At.a 1 ?_
                          refine At.done rfl ?_
                          refine AW.ret ?_
                          refine ⟨_, Sub.refl _ _, ?_⟩
                          refine KF.conv (fun w => .int .i64 w) (fun w => []) (show (-1) = (heldO a k) from by rw [hR, dropCons he1, heldO, if_neg (by simp [okM, h1, h2, h3, h4, h5, h6, h7, h8, h9, h10, h11, h12])]) ?_
                          exact KF.m [] [.int .i64 (-1)]
                        · skip
                          refine AW.skip ?_
                          refine AW.r ?_
                          refine At.a 2 ?_
                          refine At.sJ 123 ((kk + 10) + 1) (kk + 11) (by omega) (by omega) ?_
                          refine At.a 1 ?_
                          refine At.done rfl ?_
                          refine AW.seq ?_
                          refine AW.r ?_
                          refine At.a 2 ?_
                          refine At.iSl 29 126 (.tmp 124) (.tmp 125) false 17 (a.map encOutV) .i64 (i : Int) 76 (by omega) (by simp only [List.length_map, List.length_append, List.length_take, List.length_drop, List.length_replicate, List.length_set, List.length_cons, List.length_nil]; omega) ?_
                          refine At.a 3 ?_
                          refine At.lVp 3 130 (.tmp 129) false 17 (a.map encOutV) i 11 false 1 (encOutV e1) (.int .i64 e1.msg.cmd.kind) (mapGet he1) ?_
                          refine At.a 2 ?_
                          refine At.done rfl ?_
                          refine AW.cU e1.msg.cmd.kind (kk + 11) (fun h13 => ?_) (fun h13 => ?_)
                          · skip
                            refine AW.r ?_
                            refine At.a 1 ?_
                            refine At.done rfl ?_
                            refine AW.ret ?_
                            refine ⟨_, Sub.refl _ _, ?_⟩
                            refine KF.conv (fun w => .int .i64 w) (fun w => []) (show (-1) = (heldO a k) from by rw [hR, dropCons he1, heldO, if_neg (by simp [okM, h1, h2, h3, h4, h5, h6, h7, h8, h9, h10, h11, h12, h13])]) ?_
                            exact KF.m [] [.int .i64 (-1)]
                          · skip
                            refine AW.skip ?_
                            refine AW.r ?_
                            refine At.a 2 ?_
                            refine At.sJ 134 ((kk + 11) + 1) (kk + 12) (by omega) (by omega) ?_
                            refine At.a 1 ?_
                            refine At.done rfl ?_
                            refine AW.seq ?_
                            refine AW.r ?_
                            refine At.a 2 ?_
                            refine At.iSl 29 137 (.tmp 135) (.tmp 136) false 17 (a.map encOutV) .i64 (i : Int) 76 (by omega) (by simp only [List.length_map, List.length_append, List.length_take, List.length_drop, List.length_replicate, List.length_set, List.length_cons, List.length_nil]; omega) ?_
                            refine At.a 3 ?_
                            refine At.lVp 3 141 (.tmp 140) false 17 (a.map encOutV) i 12 false 1 (encOutV e1) (.int .i64 e1.msg.cmd.release) (mapGet he1) ?_
                            refine At.a 2 ?_
                            refine At.done rfl ?_
                            refine AW.cU e1.msg.cmd.release (kk + 12) (fun h14 => ?_) (fun h14 => ?_)
                            · skip
                              refine AW.r ?_
                              refine At.a 1 ?_
                              refine At.done rfl ?_
                              refine AW.ret ?_
                              refine ⟨_, Sub.refl _ _, ?_⟩
                              refine KF.conv (fun w => .int .i64 w) (fun w => []) (show (-1) = (heldO a k) from by rw [hR, dropCons he1, heldO, if_neg (by simp [okM, h1, h2, h3, h4, h5, h6, h7, h8, h9, h10, h11, h12, h13, h14])]) ?_
                              exact KF.m [] [.int .i64 (-1)]
                            · skip
                              refine AW.skip ?_
                              refine AW.r ?_
                              refine At.a 2 ?_
                              refine At.sJ 145 ((kk + 12) + 1) (kk + 13) (by omega) (by omega) ?_
                              refine At.a 1 ?_
                              refine At.done rfl ?_
                              refine AW.seq ?_
                              refine AW.r ?_
                              refine At.a 2 ?_
                              refine At.iSl 29 148 (.tmp 146) (.tmp 147) false 17 (a.map encOutV) .i64 (i : Int) 76 (by omega) (by simp only [List.length_map, List.length_append, List.length_take, List.length_drop, List.length_replicate, List.length_set, List.length_cons, List.length_nil]; omega) ?_
                              refine At.a 3 ?_
                              refine At.lVp 3 152 (.tmp 151) false 17 (a.map encOutV) i 13 false 1 (encOutV e1) (.int .i64 e1.msg.cmd.node) (mapGet he1) ?_
                              refine At.a 2 ?_
                              refine At.done rfl ?_
                              refine AW.cU e1.msg.cmd.node (kk + 13) (fun h15 => ?_) (fun h15 => ?_)
                              · skip
                                refine AW.r ?_
                                refine At.a 1 ?_
                                refine At.done rfl ?_
                                refine AW.ret ?_
                                refine ⟨_, Sub.refl _ _, ?_⟩
                                refine KF.conv (fun w => .int .i64 w) (fun w => []) (show (-1) = (heldO a k) from by rw [hR, dropCons he1, heldO, if_neg (by simp [okM, h1, h2, h3, h4, h5, h6, h7, h8, h9, h10, h11, h12, h13, h14, h15])]) ?_
                                exact KF.m [] [.int .i64 (-1)]
                              · skip
                                refine AW.skip ?_
                                refine AW.r ?_
                                refine At.a 2 ?_
                                refine At.sJ 156 ((kk + 13) + 1) (kk + 14) (by omega) (by omega) ?_
                                refine At.a 1 ?_
                                refine At.done rfl ?_
                                refine AW.seq ?_
                                refine AW.r ?_
                                refine At.a 2 ?_
                                refine At.iSl 29 159 (.tmp 157) (.tmp 158) false 17 (a.map encOutV) .i64 (i : Int) 76 (by omega) (by simp only [List.length_map, List.length_append, List.length_take, List.length_drop, List.length_replicate, List.length_set, List.length_cons, List.length_nil]; omega) ?_
                                refine At.a 3 ?_
                                refine At.lVp 3 163 (.tmp 162) false 17 (a.map encOutV) i 14 false 1 (encOutV e1) (.int .i64 e1.msg.cmd.size) (mapGet he1) ?_
                                refine At.a 2 ?_
                                refine At.done rfl ?_
                                refine AW.cU e1.msg.cmd.size (kk + 14) (fun h16 => ?_) (fun h16 => ?_)
                                · skip
                                  refine AW.r ?_
                                  refine At.a 1 ?_
                                  refine At.done rfl ?_
                                  refine AW.ret ?_
                                  refine ⟨_, Sub.refl _ _, ?_⟩
                                  refine KF.conv (fun w => .int .i64 w) (fun w => []) (show (-1) = (heldO a k) from by rw [hR, dropCons he1, heldO, if_neg (by simp [okM, h1, h2, h3, h4, h5, h6, h7, h8, h9, h10, h11, h12, h13, h14, h15, h16])]) ?_
                                  exact KF.m [] [.int .i64 (-1)]
                                · skip
                                  refine AW.skip ?_
                                  refine AW.r ?_
                                  refine At.a 2 ?_
                                  refine At.sJ 167 ((kk + 14) + 1) (kk + 15) (by omega) (by omega) ?_
                                  refine At.a 1 ?_
                                  refine At.done rfl ?_
                                  refine AW.seq ?_
                                  refine AW.seq ?_
                                  refine AW.regionD Try_mix (At.start ?_)
                                  refine At.a 2 ?_
                                  refine At.iSl 29 170 (.tmp 168) (.tmp 169) false 17 (a.map encOutV) .i64 (i : Int) 76 (by omega) (by simp only [List.length_map, List.length_append, List.length_take, List.length_drop, List.length_replicate, List.length_set, List.length_cons, List.length_nil]; omega) ?_
                                  refine At.a 3 ?_
                                  refine At.lVp 9 174 (.tmp 173) false 17 (a.map encOutV) i 15 false 1 (encOutV e1) (.str e1.msg.cmd.digest) (mapGet he1) ?_
                                  refine At.a 1 ?_
                                  refine At.c (laws_markText_spec  (kk + 15) (by omega)) Try.call48 true [] [] [] trivial ?_
                                  refine At.a 1 ?_
                                  refine At.done rfl ⟨by kernel_rfl, ?_⟩
                                  refine AW.cNE (e1.msg.cmd.digest.toList) ((markT (kk + 15)).toList) (fun h17 => ?_) (fun h17 => ?_)
                                  · skip
                                    refine AW.r ?_
                                    refine At.a 1 ?_
                                    refine At.done rfl ?_
                                    refine AW.ret ?_
                                    refine ⟨_, Sub.refl _ _, ?_⟩
                                    refine KF.conv (fun w => .int .i64 w) (fun w => []) (show (-1) = (heldO a k) from by rw [hR, dropCons he1, heldO, if_neg (by simp [okM, h1, h2, h3, h4, h5, h6, h7, h8, h9, h10, h11, h12, h13, h14, h15, h16, h17])]) ?_
                                    exact KF.m [] [.int .i64 (-1)]
                                  · skip
                                    refine AW.skip ?_
                                    refine AW.r ?_
                                    refine At.a 2 ?_
                                    refine At.sJ 179 ((kk + 15) + 1) (kk + 16) (by omega) (by omega) ?_
                                    refine At.a 1 ?_
                                    refine At.done rfl ?_
                                    refine AW.r ?_
                                    refine At.a 2 ?_
                                    refine At.iSl 29 182 (.tmp 180) (.tmp 181) false 17 (a.map encOutV) .i64 (i : Int) 76 (by omega) (by simp only [List.length_map, List.length_append, List.length_take, List.length_drop, List.length_replicate, List.length_set, List.length_cons, List.length_nil]; omega) ?_
                                    refine At.a 2 ?_
                                    refine At.lVp 31 185 (.tmp 184) false 17 (a.map encOutV) i 16 false 1 (encOutV e1) (.sl false 6 (e1.msg.entries.map encEnt)) (mapGet he1) ?_
                                    refine At.a 1 ?_
                                    refine At.c (laws_heldEntryS_spec  e1.msg.entries (kk + 16) (by omega) (by omega)) Try.call50 true [] [] [] trivial ?_
                                    have hhe := heldE_le e1.msg.entries (kk + 16) (by omega)
                                    refine At.a 1 ?_
                                    refine At.done rfl ?_
                                    refine AW.r ?_
                                    refine At.a 2 ?_
                                    refine At.done rfl ?_
                                    refine AW.cD ((held okE nxE e1.msg.entries (kk + 16)) < 0) (fun h18 => ?_) (fun h18 => ?_)
                                    · skip
                                      refine AW.r ?_
                                      refine At.a 1 ?_
                                      refine At.done rfl ?_
                                      refine AW.ret ?_
                                      refine ⟨_, Sub.refl _ _, ?_⟩
                                      refine KF.conv (fun w => .int .i64 w) (fun w => []) (show (-1) = (heldO a k) from by rw [hR, dropCons he1, heldO, if_pos (by simp [okM, h1, h2, h3, h4, h5, h6, h7, h8, h9, h10, h11, h12, h13, h14, h15, h16, h17, h18]), if_pos (by assumption)]) ?_
                                      exact KF.m [] [.int .i64 (-1)]
                                    · skip
                                      refine AW.skip ?_
                                      refine AW.region (At.start ?_)
                                      refine At.a 2 ?_
                                      refine At.sI 11 ((i : Int) + 1) (by omega) ?_
                                      refine At.a 1 ?_
                                      refine At.done rfl ?_
                                      exact ⟨(i + 1, (held okE nxE e1.msg.entries (kk + 16))), ⟨by omega, by omega, by omega, by rw [hR, dropCons he1, heldO, if_pos (by simp [okM, h1, h2, h3, h4, h5, h6, h7, h8, h9, h10, h11, h12, h13, h14, h15, h16, h17, h18]), if_neg (by assumption)]⟩, (by simp only; omega), Sub.o [] [true, true, false, false, false, true]⟩
  · skip
    refine AW.exit ?_
    refine AW.r ?_
    refine At.a 2 ?_
    refine At.done rfl ?_
    refine AW.ret ?_
    refine ⟨_, Sub.refl _ _, ?_⟩
    refine KF.conv (fun w => .int .i64 w) (fun w => []) (show (kk) = (heldO a k) from by rw [hR, List.drop_of_length_le (by omega)]; rfl) ?_
    exact KF.m [] [.int .i64 kk]
set_option maxRecDepth 100000 in
set_option maxHeartbeats 4000000 in
theorem laws_FnExactOnAsk_spec  (aR : Raft) (aM : Msg) (hb : BigR aR) (hd : BigM aM) : FnSpec Try.prog 6 [.agg [.int .i64 aR.id, .int .i64 aR.of_, .int .i64 aR.role, .int .i64 aR.commit, .int .i64 aR.hard.term, .int .i64 aR.hard.vote, .sl false 6 (aR.hard.log.map encEnt), .sl false 1 (aR.yes.map encI), .sl false 1 (aR.next.map encI), .sl false 1 (aR.match_.map encI)], .agg [.int .i64 aM.kind, .int .i64 aM.from_, .int .i64 aM.term, .int .i64 aM.at_, .int .i64 aM.atTerm, .int .i64 aM.commit, .bool aM.yes, .int .i64 aM.release, .int .i64 aM.part, .str aM.bytes, .int .i64 aM.cmd.kind, .int .i64 aM.cmd.release, .int .i64 aM.cmd.node, .int .i64 aM.cmd.size, .str aM.cmd.digest, .sl false 6 (aM.entries.map encEnt)]] [] (.bool true) [] := by
  refine FnSpec.of 172 Try.func6 rfl Try.ntmps6 (by simp) (AW.weakK ?_)
  refine AW.r ?_
  refine At.a 3 ?_
  refine At.done rfl ?_
  refine AW.r ?_
  refine At.a 1 ?_
  refine At.done rfl ?_
  refine AW.r ?_
  refine At.a 2 ?_
  refine At.c (laws_szRaft_spec  aR 1048576 (by omega) hb) Try.call7 true [] [] [] trivial ?_
  refine At.a 1 ?_
  refine At.done rfl ?_
  refine AW.seq ?_
  refine AW.r ?_
  refine At.a 2 ?_
  refine At.done rfl ?_
  refine AW.cD ((szRaft aR 1048576) < 0) (fun h1 => ?_) (fun h1 => ?_)
  · skip
    refine AW.r ?_
    refine At.a 1 ?_
    refine At.done rfl ?_
    refine AW.ret ?_
    refine ⟨_, Sub.refl _ _, ?_⟩
    exact KF.m [] [.bool true]
  · skip
    have hzz := szRaft_small (by omega) h1
    have hz := hzz.1
    have hz2 := hzz.2
    refine AW.skip ?_
    refine AW.r ?_
    refine At.a 2 ?_
    refine At.c (laws_szMsg_spec  aM (szRaft aR 1048576) (by omega) hd) Try.call26 true [] [] [] trivial ?_
    refine At.a 1 ?_
    refine At.done rfl ?_
    refine AW.seq ?_
    refine AW.r ?_
    refine At.a 2 ?_
    refine At.done rfl ?_
    refine AW.cD ((szMsg aM (szRaft aR 1048576)) < 0) (fun h2 => ?_) (fun h2 => ?_)
    · skip
      refine AW.r ?_
      refine At.a 1 ?_
      refine At.done rfl ?_
      refine AW.ret ?_
      refine ⟨_, Sub.refl _ _, ?_⟩
      exact KF.m [] [.bool true]
    · skip
      have hzp : SmallR (askR aR aM) := askR_small aM hz
      have hke := raftEnd_eq aR 1
      have hkp := raftEnd_eq (askR aR aM) 1
      obtain ⟨z1, z2, z3, z4⟩ := id hz
      obtain ⟨p1, p2, p3, p4⟩ := id hzp
      have hrl : (askRecs aR aM).length ≤ 10 := askRecs_len _ _
      have hfew : FewOuts (askOuts aR aM) := askOuts_few _ _
      have hre := endsR_eq (askRecs aR aM) (raftEnd (askR aR aM) 1)
      have hme := hfew.ends (ends nxR (askRecs aR aM) (raftEnd (askR aR aM) 1))
      have hmf := hfew.marks (ends nxR (askRecs aR aM) (raftEnd (askR aR aM) 1))
      have hm := (szMsg_small (by omega) h2).1
      have hee := endsE_eq aM.entries (raftEnd aR 1)
      refine AW.skip ?_
      refine AW.seq ?_
      refine AW.regionD Try_mix (At.start ?_)
      refine At.a 1 ?_
      refine At.c (laws_toRaft_spec  aR hz) Try.call9 true [] [(1640, 0), (1641, 1), (1642, 2), (1643, 3)] [] trivial ?_
      refine At.a 1 ?_
      refine At.c (laws_toMsg_spec  aM hm) Try.call28 true [] [(1680, 0)] [] trivial ?_
      refine At.c (spec_OnAsk_spec  aR aM hz hm) Try.call27 false [] [(1700, 0), (1701, 1), (1702, 2), (1703, 3), (1704, 4), (1705, 5)] [(1640, 6, (aR.hard.log.map encEnt)), (1641, 1, (aR.yes.map encI)), (1642, 1, (aR.next.map encI)), (1643, 1, (aR.match_.map encI)), (1680, 6, (aM.entries.map encEnt))] ⟨rfl, ⟨88, (aR.hard.log.map encEnt), by kernel_rfl, FrzIs.same (allP_encEnt _)⟩, rfl, ⟨3, (aR.yes.map encI), by kernel_rfl, FrzIs.same (allP_encI _)⟩, rfl, ⟨3, (aR.next.map encI), by kernel_rfl, FrzIs.same (allP_encI _)⟩, rfl, ⟨3, (aR.match_.map encI), by kernel_rfl, FrzIs.same (allP_encI _)⟩, rfl, ⟨88, (aM.entries.map encEnt), by kernel_rfl, FrzIs.same (allP_encEnt _)⟩, trivial⟩ ?_
      refine At.a 8 ?_
      refine At.done rfl ⟨by kernel_rfl, ?_⟩
      refine AW.r ?_
      refine At.a 1 ?_
      refine At.c (laws_toRaft_spec  aR hz) Try.call9 true [] [(1800, 0), (1801, 1), (1802, 2), (1803, 3)] [] trivial ?_
      refine At.a 2 ?_
      refine At.done rfl ?_
      refine AW.r ?_
      refine At.a 1 ?_
      refine At.c (laws_toMsg_spec  aM hm) Try.call28 true [] [(1840, 0)] [] trivial ?_
      refine At.a 2 ?_
      refine At.done rfl ?_
      refine AW.r ?_
      refine At.a 2 ?_
      refine At.c (impl_OnAsk_spec  aR aM hz hm) Try.call29 false [] [(1920, 0), (1921, 1), (1922, 2), (1923, 3), (1924, 4), (1925, 5)] [(1800, 6, (aR.hard.log.map encEnt)), (1801, 1, (aR.yes.map encI)), (1802, 1, (aR.next.map encI)), (1803, 1, (aR.match_.map encI)), (1840, 6, (aM.entries.map encEnt))] ⟨rfl, ⟨88, (aR.hard.log.map encEnt), by kernel_rfl, FrzIs.same (allP_encEnt _)⟩, rfl, ⟨3, (aR.yes.map encI), by kernel_rfl, FrzIs.same (allP_encI _)⟩, rfl, ⟨3, (aR.next.map encI), by kernel_rfl, FrzIs.same (allP_encI _)⟩, rfl, ⟨3, (aR.match_.map encI), by kernel_rfl, FrzIs.same (allP_encI _)⟩, rfl, ⟨88, (aM.entries.map encEnt), by kernel_rfl, FrzIs.same (allP_encEnt _)⟩, trivial⟩ ?_
      refine At.a 8 ?_
      refine At.done rfl ?_
      refine AW.seq ?_
      refine AW.r ?_
      refine At.a 2 ?_
      refine At.c (laws_eqRaft_spec  (askR aR aM) (askR aR aM) (by exact hzp) (by exact hzp)) Try.call12 false [] [] [(1920, 6, (((askR aR aM).hard.log).map encEnt)), (1921, 1, (((askR aR aM).yes).map encI)), (1922, 1, (((askR aR aM).next).map encI)), (1923, 1, (((askR aR aM).match_).map encI)), (1700, 6, (((askR aR aM).hard.log).map encEnt)), (1701, 1, (((askR aR aM).yes).map encI)), (1702, 1, (((askR aR aM).next).map encI)), (1703, 1, (((askR aR aM).match_).map encI))] ⟨rfl, ⟨88, (((askR aR aM).hard.log).map encEnt), by kernel_rfl, FrzIs.same (allP_encEnt _)⟩, rfl, ⟨3, (((askR aR aM).yes).map encI), by kernel_rfl, FrzIs.same (allP_encI _)⟩, rfl, ⟨3, (((askR aR aM).next).map encI), by kernel_rfl, FrzIs.same (allP_encI _)⟩, rfl, ⟨3, (((askR aR aM).match_).map encI), by kernel_rfl, FrzIs.same (allP_encI _)⟩, rfl, ⟨88, (((askR aR aM).hard.log).map encEnt), by kernel_rfl, FrzIs.same (allP_encEnt _)⟩, rfl, ⟨3, (((askR aR aM).yes).map encI), by kernel_rfl, FrzIs.same (allP_encI _)⟩, rfl, ⟨3, (((askR aR aM).next).map encI), by kernel_rfl, FrzIs.same (allP_encI _)⟩, rfl, ⟨3, (((askR aR aM).match_).map encI), by kernel_rfl, FrzIs.same (allP_encI _)⟩, trivial⟩ ?_
      refine At.a 2 ?_
      refine At.sB 54 (!(raftEq (askR aR aM) (askR aR aM))) false (sayB (by rw [show (raftEq (askR aR aM) (askR aR aM)) = true from (raftEq_refl _)]; rfl)) ?_
      refine At.a 2 ?_
      refine At.c (laws_eqRecS_spec  (askRecs aR aM) (askRecs aR aM) (by omega) (by omega)) Try.call20 false [] [] [(1924, 10, ((askRecs aR aM).map encRec)), (1704, 10, ((askRecs aR aM).map encRec))] ⟨rfl, ⟨93, ((askRecs aR aM).map encRec), by kernel_rfl, FrzIs.same (allP_encRec _)⟩, rfl, ⟨93, ((askRecs aR aM).map encRec), by kernel_rfl, FrzIs.same (allP_encRec _)⟩, trivial⟩ ?_
      refine At.a 3 ?_
      refine At.sB 60 (!(listEq recEq (askRecs aR aM) (askRecs aR aM))) false (sayB (by rw [show (listEq recEq (askRecs aR aM) (askRecs aR aM)) = true from (listEq_refl recEq_refl _)]; rfl)) ?_
      refine At.a 2 ?_
      refine At.c (laws_eqOutS_spec  (askOuts aR aM) (askOuts aR aM) (by have := hfew.1; omega) (by have := hfew.1; omega) (fun o ho => by have := hfew.2 o ho; omega) (fun o ho => by have := hfew.2 o ho; omega)) Try.call11 false [] [] [(1925, 17, ((askOuts aR aM).map encOutV)), (1705, 17, ((askOuts aR aM).map encOutV))] ⟨rfl, ⟨76, ((askOuts aR aM).map encOut), by kernel_rfl, frzOut _⟩, rfl, ⟨76, ((askOuts aR aM).map encOut), by kernel_rfl, frzOut _⟩, trivial⟩ ?_
      refine At.a 2 ?_
      refine At.done rfl ?_
      refine AW.condF (!(listEq outEq (askOuts aR aM) (askOuts aR aM))) (by kernel_rfl) (by rw [show (listEq outEq (askOuts aR aM) (askOuts aR aM)) = true from (listEq_refl outEq_refl _)]; rfl) ?_
      refine AW.skip ?_
      refine AW.seq ?_
      refine AW.seq ?_
      refine AW.regionD Try_mix (At.start ?_)
      refine At.a 2 ?_
      refine At.c (laws_toRaft_spec  aR hz) Try.call9 true [] [(2360, 0), (2361, 1), (2362, 2), (2363, 3)] [] trivial ?_
      refine At.c (laws_eqRaft_spec  aR aR (by exact hz) (by exact hz)) Try.call12 false [] [] [(1800, 6, (aR.hard.log.map encEnt)), (1801, 1, (aR.yes.map encI)), (1802, 1, (aR.next.map encI)), (1803, 1, (aR.match_.map encI)), (2360, 6, (aR.hard.log.map encEnt)), (2361, 1, (aR.yes.map encI)), (2362, 1, (aR.next.map encI)), (2363, 1, (aR.match_.map encI))] ⟨rfl, ⟨88, (aR.hard.log.map encEnt), by kernel_rfl, FrzIs.same (allP_encEnt _)⟩, rfl, ⟨3, (aR.yes.map encI), by kernel_rfl, FrzIs.same (allP_encI _)⟩, rfl, ⟨3, (aR.next.map encI), by kernel_rfl, FrzIs.same (allP_encI _)⟩, rfl, ⟨3, (aR.match_.map encI), by kernel_rfl, FrzIs.same (allP_encI _)⟩, rfl, ⟨88, (aR.hard.log.map encEnt), by kernel_rfl, FrzIs.same (allP_encEnt _)⟩, rfl, ⟨3, (aR.yes.map encI), by kernel_rfl, FrzIs.same (allP_encI _)⟩, rfl, ⟨3, (aR.next.map encI), by kernel_rfl, FrzIs.same (allP_encI _)⟩, rfl, ⟨3, (aR.match_.map encI), by kernel_rfl, FrzIs.same (allP_encI _)⟩, trivial⟩ ?_
      refine At.a 1 ?_
      refine At.done rfl ⟨by kernel_rfl, ?_⟩
      refine AW.condF (!(raftEq aR aR)) (by kernel_rfl) (by rw [show (raftEq aR aR) = true from (raftEq_refl _)]; rfl) ?_
      refine AW.skip ?_
      refine AW.seq ?_
      refine AW.seq ?_
      refine AW.regionD Try_mix (At.start ?_)
      refine At.a 2 ?_
      refine At.c (laws_toMsg_spec  aM hm) Try.call28 true [] [(2460, 0)] [] trivial ?_
      refine At.c (laws_eqMsg_spec  aM aM hm hm) Try.call30 false [] [] [(1840, 6, (aM.entries.map encEnt)), (2460, 6, (aM.entries.map encEnt))] ⟨rfl, ⟨88, (aM.entries.map encEnt), by kernel_rfl, FrzIs.same (allP_encEnt _)⟩, rfl, ⟨88, (aM.entries.map encEnt), by kernel_rfl, FrzIs.same (allP_encEnt _)⟩, trivial⟩ ?_
      refine At.a 1 ?_
      refine At.done rfl ⟨by kernel_rfl, ?_⟩
      refine AW.condF (!(msgEq aM aM)) (by kernel_rfl) (by rw [show (msgEq aM aM) = true from (msgEq_refl _)]; rfl) ?_
      refine AW.skip ?_
      refine AW.r ?_
      refine At.a 1 ?_
      refine At.done rfl ?_
      refine AW.r ?_
      refine At.a 2 ?_
      refine At.c (laws_markRaft_spec  aR 1 (by exact hz) (by omega)) Try.call13 true [(1800, 0), (1801, 1), (1802, 2), (1803, 3)] [] [] trivial ?_
      refine At.a 1 ?_
      refine At.done rfl ?_
      refine AW.r ?_
      refine At.a 2 ?_
      refine At.c (laws_markMsg_spec  aM (raftEnd aR 1) (by omega) hm (by omega)) Try.call31 true [(1840, 0)] [] [] trivial ?_
      refine At.a 1 ?_
      refine At.done rfl ?_
      refine AW.seq ?_
      refine AW.r ?_
      refine At.a 3 ?_
      refine At.sB 84 (decide ((ends nxE aM.entries (raftEnd aR 1)) < 0)) false (sayB (decide_eq_false (by omega))) ?_
      refine At.a 2 ?_
      refine At.c (laws_eqRaft_spec  (askR aR aM) (askR aR aM) (by exact hzp) (by exact hzp)) Try.call12 false [] [] [(1920, 6, (((askR aR aM).hard.log).map encEnt)), (1921, 1, (((askR aR aM).yes).map encI)), (1922, 1, (((askR aR aM).next).map encI)), (1923, 1, (((askR aR aM).match_).map encI)), (1700, 6, (((askR aR aM).hard.log).map encEnt)), (1701, 1, (((askR aR aM).yes).map encI)), (1702, 1, (((askR aR aM).next).map encI)), (1703, 1, (((askR aR aM).match_).map encI))] ⟨rfl, ⟨88, (((askR aR aM).hard.log).map encEnt), by kernel_rfl, FrzIs.same (allP_encEnt _)⟩, rfl, ⟨3, (((askR aR aM).yes).map encI), by kernel_rfl, FrzIs.same (allP_encI _)⟩, rfl, ⟨3, (((askR aR aM).next).map encI), by kernel_rfl, FrzIs.same (allP_encI _)⟩, rfl, ⟨3, (((askR aR aM).match_).map encI), by kernel_rfl, FrzIs.same (allP_encI _)⟩, rfl, ⟨88, (((askR aR aM).hard.log).map encEnt), by kernel_rfl, FrzIs.same (allP_encEnt _)⟩, rfl, ⟨3, (((askR aR aM).yes).map encI), by kernel_rfl, FrzIs.same (allP_encI _)⟩, rfl, ⟨3, (((askR aR aM).next).map encI), by kernel_rfl, FrzIs.same (allP_encI _)⟩, rfl, ⟨3, (((askR aR aM).match_).map encI), by kernel_rfl, FrzIs.same (allP_encI _)⟩, trivial⟩ ?_
      refine At.a 3 ?_
      refine At.sB 90 (!(raftEq (askR aR aM) (askR aR aM))) false (sayB (by rw [show (raftEq (askR aR aM) (askR aR aM)) = true from (raftEq_refl _)]; rfl)) ?_
      refine At.a 2 ?_
      refine At.c (laws_eqRecS_spec  (askRecs aR aM) (askRecs aR aM) (by omega) (by omega)) Try.call20 false [] [] [(1924, 10, ((askRecs aR aM).map encRec)), (1704, 10, ((askRecs aR aM).map encRec))] ⟨rfl, ⟨93, ((askRecs aR aM).map encRec), by kernel_rfl, FrzIs.same (allP_encRec _)⟩, rfl, ⟨93, ((askRecs aR aM).map encRec), by kernel_rfl, FrzIs.same (allP_encRec _)⟩, trivial⟩ ?_
      refine At.a 3 ?_
      refine At.sB 96 (!(listEq recEq (askRecs aR aM) (askRecs aR aM))) false (sayB (by rw [show (listEq recEq (askRecs aR aM) (askRecs aR aM)) = true from (listEq_refl recEq_refl _)]; rfl)) ?_
      refine At.a 2 ?_
      refine At.c (laws_eqOutS_spec  (askOuts aR aM) (askOuts aR aM) (by have := hfew.1; omega) (by have := hfew.1; omega) (fun o ho => by have := hfew.2 o ho; omega) (fun o ho => by have := hfew.2 o ho; omega)) Try.call11 false [] [] [(1925, 17, ((askOuts aR aM).map encOutV)), (1705, 17, ((askOuts aR aM).map encOutV))] ⟨rfl, ⟨76, ((askOuts aR aM).map encOut), by kernel_rfl, frzOut _⟩, rfl, ⟨76, ((askOuts aR aM).map encOut), by kernel_rfl, frzOut _⟩, trivial⟩ ?_
      refine At.a 2 ?_
      refine At.done rfl ?_
      refine AW.condF (!(listEq outEq (askOuts aR aM) (askOuts aR aM))) (by kernel_rfl) (by rw [show (listEq outEq (askOuts aR aM) (askOuts aR aM)) = true from (listEq_refl outEq_refl _)]; rfl) ?_
      refine AW.skip ?_
      refine AW.r ?_
      refine At.a 1 ?_
      refine At.done rfl ?_
      refine AW.r ?_
      refine At.a 2 ?_
      refine At.c (laws_markRaft_spec  (askR aR aM) 1 (by exact hzp) (by omega)) Try.call13 true [(1920, 0), (1921, 1), (1922, 2), (1923, 3)] [] [] trivial ?_
      refine At.a 1 ?_
      refine At.done rfl ?_
      refine AW.r ?_
      refine At.a 2 ?_
      refine At.c (laws_markRecS_spec  (askRecs aR aM) (raftEnd (askR aR aM) 1) (by omega) (by omega) (by omega)) Try.call21 true [(1924, 0)] [] [] trivial ?_
      refine At.a 1 ?_
      refine At.done rfl ?_
      refine AW.r ?_
      refine At.a 2 ?_
      refine At.c (laws_markOutS_spec  (askOuts aR aM) (ends nxR (askRecs aR aM) (raftEnd (askR aR aM) 1)) (by omega) (by have := hfew.1; omega) (by omega) (fun o ho => by have := hfew.2 o ho; omega)) Try.call14 true [(1925, 0)] [] [] trivial ?_
      refine At.a 1 ?_
      refine At.done rfl ?_
      refine AW.r ?_
      refine At.a 1 ?_
      refine At.done rfl ?_
      refine AW.r ?_
      refine At.a 2 ?_
      refine At.c (laws_heldRaft_spec  (⟨(askR aR aM).id, (askR aR aM).of_, (askR aR aM).role, (askR aR aM).commit, ⟨(askR aR aM).hard.term, (askR aR aM).hard.vote, (raftMark (askR aR aM) 1).hard.log⟩, (raftMark (askR aR aM) 1).yes, (raftMark (askR aR aM) 1).next, (raftMark (askR aR aM) 1).match_⟩ : Raft) 1 (raftMark_small hzp 1) (by omega)) Try.call22 false [] [] [(1920, 6, (((raftMark (askR aR aM) 1).hard.log).map encEnt)), (1921, 1, (((raftMark (askR aR aM) 1).yes).map encI)), (1922, 1, (((raftMark (askR aR aM) 1).next).map encI)), (1923, 1, (((raftMark (askR aR aM) 1).match_).map encI))] ⟨rfl, ⟨88, (((raftMark (askR aR aM) 1).hard.log).map encEnt), by kernel_rfl, FrzIs.same (allP_encEnt _)⟩, rfl, ⟨3, (((raftMark (askR aR aM) 1).yes).map encI), by kernel_rfl, FrzIs.same (allP_encI _)⟩, rfl, ⟨3, (((raftMark (askR aR aM) 1).next).map encI), by kernel_rfl, FrzIs.same (allP_encI _)⟩, rfl, ⟨3, (((raftMark (askR aR aM) 1).match_).map encI), by kernel_rfl, FrzIs.same (allP_encI _)⟩, trivial⟩ ?_
      refine At.say 113 (.int .i64 (heldRaft (⟨(askR aR aM).id, (askR aR aM).of_, (askR aR aM).role, (askR aR aM).commit, ⟨(askR aR aM).hard.term, (askR aR aM).hard.vote, (raftMark (askR aR aM) 1).hard.log⟩, (raftMark (askR aR aM) 1).yes, (raftMark (askR aR aM) 1).next, (raftMark (askR aR aM) 1).match_⟩ : Raft) 1)) (.int .i64 (raftEnd (askR aR aM) 1)) (by kernel_rfl) (congrArg (V.int .i64) (held_raft (askR aR aM) 1 (by omega))) ?_
      refine At.a 1 ?_
      refine At.done rfl ?_
      refine AW.seq ?_
      refine AW.r ?_
      refine At.a 2 ?_
      refine At.done rfl ?_
      refine AW.condF (decide ((raftEnd (askR aR aM) 1) < 0)) (by kernel_rfl) (decide_eq_false (by have := hke; omega)) ?_
      refine AW.skip ?_
      refine AW.r ?_
      refine At.a 2 ?_
      refine At.c (laws_heldRecS_spec  (marks markR nxR (askRecs aR aM) (raftEnd (askR aR aM) 1)) (raftEnd (askR aR aM) 1) (by rw [marks_len]; omega) (by rw [marks_len]; omega)) Try.call23 false [] [] [(1924, 10, ((marks markR nxR (askRecs aR aM) (raftEnd (askR aR aM) 1)).map encRec))] ⟨rfl, ⟨93, ((marks markR nxR (askRecs aR aM) (raftEnd (askR aR aM) 1)).map encRec), by kernel_rfl, FrzIs.same (allP_encRec _)⟩, trivial⟩ ?_
      refine At.say 118 (.int .i64 (held okR nxR (marks markR nxR (askRecs aR aM) (raftEnd (askR aR aM) 1)) (raftEnd (askR aR aM) 1))) (.int .i64 (ends nxR (askRecs aR aM) (raftEnd (askR aR aM) 1))) (by kernel_rfl) (congrArg (V.int .i64) (held_recs _ _ (by omega))) ?_
      refine At.a 1 ?_
      refine At.done rfl ?_
      refine AW.seq ?_
      refine AW.r ?_
      refine At.a 2 ?_
      refine At.done rfl ?_
      refine AW.condF (decide ((ends nxR (askRecs aR aM) (raftEnd (askR aR aM) 1)) < 0)) (by kernel_rfl) (decide_eq_false (by omega)) ?_
      refine AW.skip ?_
      refine AW.r ?_
      refine At.a 2 ?_
      refine At.c (laws_heldOutS_spec  (marks markO nxO (askOuts aR aM) (ends nxR (askRecs aR aM) (raftEnd (askR aR aM) 1))) (ends nxR (askRecs aR aM) (raftEnd (askR aR aM) 1)) hmf (by omega)) Try.call15 false [] [] [(1925, 17, ((marks markO nxO (askOuts aR aM) (ends nxR (askRecs aR aM) (raftEnd (askR aR aM) 1))).map encOutV))] ⟨rfl, ⟨76, ((marks markO nxO (askOuts aR aM) (ends nxR (askRecs aR aM) (raftEnd (askR aR aM) 1))).map encOut), by kernel_rfl, frzOut _⟩, trivial⟩ ?_
      refine At.say 123 (.int .i64 (heldO (marks markO nxO (askOuts aR aM) (ends nxR (askRecs aR aM) (raftEnd (askR aR aM) 1))) (ends nxR (askRecs aR aM) (raftEnd (askR aR aM) 1)))) (.int .i64 (ends nxO (askOuts aR aM) (ends nxR (askRecs aR aM) (raftEnd (askR aR aM) 1)))) (by kernel_rfl) (congrArg (V.int .i64) (held_outs _ _ (by omega))) ?_
      refine At.a 1 ?_
      refine At.done rfl ?_
      refine AW.seq ?_
      refine AW.r ?_
      refine At.a 2 ?_
      refine At.done rfl ?_
      refine AW.condF (decide ((ends nxO (askOuts aR aM) (ends nxR (askRecs aR aM) (raftEnd (askR aR aM) 1))) < 0)) (by kernel_rfl) (decide_eq_false (by omega)) ?_
      refine AW.skip ?_
      refine AW.seq ?_
      refine AW.r ?_
      refine At.a 3 ?_
      refine At.done rfl ?_
      refine AW.condF ((ends nxO (askOuts aR aM) (ends nxR (askRecs aR aM) (raftEnd (askR aR aM) 1))) != (ends nxO (askOuts aR aM) (ends nxR (askRecs aR aM) (raftEnd (askR aR aM) 1)))) (by kernel_rfl) (by simp) ?_
      refine AW.skip ?_
      refine AW.seq ?_
      refine AW.regionD Try_mix (At.start ?_)
      refine At.a 1 ?_
      refine At.c (laws_toRaft_spec  aR hz) Try.call9 true [] [(3620, 0), (3621, 1), (3622, 2), (3623, 3)] [] trivial ?_
      refine At.a 1 ?_
      refine At.c (laws_toMsg_spec  aM hm) Try.call28 true [] [(3660, 0)] [] trivial ?_
      refine At.c (impl_OnAsk_spec  aR aM hz hm) Try.call29 false [] [(3680, 0), (3681, 1), (3682, 2), (3683, 3), (3684, 4), (3685, 5)] [(3620, 6, (aR.hard.log.map encEnt)), (3621, 1, (aR.yes.map encI)), (3622, 1, (aR.next.map encI)), (3623, 1, (aR.match_.map encI)), (3660, 6, (aM.entries.map encEnt))] ⟨rfl, ⟨88, (aR.hard.log.map encEnt), by kernel_rfl, FrzIs.same (allP_encEnt _)⟩, rfl, ⟨3, (aR.yes.map encI), by kernel_rfl, FrzIs.same (allP_encI _)⟩, rfl, ⟨3, (aR.next.map encI), by kernel_rfl, FrzIs.same (allP_encI _)⟩, rfl, ⟨3, (aR.match_.map encI), by kernel_rfl, FrzIs.same (allP_encI _)⟩, rfl, ⟨88, (aM.entries.map encEnt), by kernel_rfl, FrzIs.same (allP_encEnt _)⟩, trivial⟩ ?_
      refine At.a 8 ?_
      refine At.done rfl ⟨by kernel_rfl, ?_⟩
      refine AW.seq ?_
      refine AW.r ?_
      refine At.a 2 ?_
      refine At.c (laws_eqRaft_spec  (askR aR aM) (askR aR aM) (by exact hzp) (by exact hzp)) Try.call12 false [] [] [(3680, 6, (((askR aR aM).hard.log).map encEnt)), (3681, 1, (((askR aR aM).yes).map encI)), (3682, 1, (((askR aR aM).next).map encI)), (3683, 1, (((askR aR aM).match_).map encI)), (1700, 6, (((askR aR aM).hard.log).map encEnt)), (1701, 1, (((askR aR aM).yes).map encI)), (1702, 1, (((askR aR aM).next).map encI)), (1703, 1, (((askR aR aM).match_).map encI))] ⟨rfl, ⟨88, (((askR aR aM).hard.log).map encEnt), by kernel_rfl, FrzIs.same (allP_encEnt _)⟩, rfl, ⟨3, (((askR aR aM).yes).map encI), by kernel_rfl, FrzIs.same (allP_encI _)⟩, rfl, ⟨3, (((askR aR aM).next).map encI), by kernel_rfl, FrzIs.same (allP_encI _)⟩, rfl, ⟨3, (((askR aR aM).match_).map encI), by kernel_rfl, FrzIs.same (allP_encI _)⟩, rfl, ⟨88, (((askR aR aM).hard.log).map encEnt), by kernel_rfl, FrzIs.same (allP_encEnt _)⟩, rfl, ⟨3, (((askR aR aM).yes).map encI), by kernel_rfl, FrzIs.same (allP_encI _)⟩, rfl, ⟨3, (((askR aR aM).next).map encI), by kernel_rfl, FrzIs.same (allP_encI _)⟩, rfl, ⟨3, (((askR aR aM).match_).map encI), by kernel_rfl, FrzIs.same (allP_encI _)⟩, trivial⟩ ?_
      refine At.a 2 ?_
      refine At.sB 142 (!(raftEq (askR aR aM) (askR aR aM))) false (sayB (by rw [show (raftEq (askR aR aM) (askR aR aM)) = true from (raftEq_refl _)]; rfl)) ?_
      refine At.a 2 ?_
      refine At.c (laws_eqRecS_spec  (askRecs aR aM) (askRecs aR aM) (by omega) (by omega)) Try.call20 false [] [] [(3684, 10, ((askRecs aR aM).map encRec)), (1704, 10, ((askRecs aR aM).map encRec))] ⟨rfl, ⟨93, ((askRecs aR aM).map encRec), by kernel_rfl, FrzIs.same (allP_encRec _)⟩, rfl, ⟨93, ((askRecs aR aM).map encRec), by kernel_rfl, FrzIs.same (allP_encRec _)⟩, trivial⟩ ?_
      refine At.a 3 ?_
      refine At.sB 148 (!(listEq recEq (askRecs aR aM) (askRecs aR aM))) false (sayB (by rw [show (listEq recEq (askRecs aR aM) (askRecs aR aM)) = true from (listEq_refl recEq_refl _)]; rfl)) ?_
      refine At.a 2 ?_
      refine At.c (laws_eqOutS_spec  (askOuts aR aM) (askOuts aR aM) (by have := hfew.1; omega) (by have := hfew.1; omega) (fun o ho => by have := hfew.2 o ho; omega) (fun o ho => by have := hfew.2 o ho; omega)) Try.call11 false [] [] [(3685, 17, ((askOuts aR aM).map encOutV)), (1705, 17, ((askOuts aR aM).map encOutV))] ⟨rfl, ⟨76, ((askOuts aR aM).map encOut), by kernel_rfl, frzOut _⟩, rfl, ⟨76, ((askOuts aR aM).map encOut), by kernel_rfl, frzOut _⟩, trivial⟩ ?_
      refine At.a 2 ?_
      refine At.done rfl ?_
      refine AW.condF (!(listEq outEq (askOuts aR aM) (askOuts aR aM))) (by kernel_rfl) (by rw [show (listEq outEq (askOuts aR aM) (askOuts aR aM)) = true from (listEq_refl outEq_refl _)]; rfl) ?_
      refine AW.skip ?_
      refine AW.r ?_
      refine At.a 1 ?_
      refine At.done rfl ?_
      refine AW.r ?_
      refine At.a 2 ?_
      refine At.c (laws_heldRaft_spec  (⟨(askR aR aM).id, (askR aR aM).of_, (askR aR aM).role, (askR aR aM).commit, ⟨(askR aR aM).hard.term, (askR aR aM).hard.vote, (raftMark (askR aR aM) 1).hard.log⟩, (raftMark (askR aR aM) 1).yes, (raftMark (askR aR aM) 1).next, (raftMark (askR aR aM) 1).match_⟩ : Raft) 1 (raftMark_small hzp 1) (by omega)) Try.call22 false [] [] [(1920, 6, (((raftMark (askR aR aM) 1).hard.log).map encEnt)), (1921, 1, (((raftMark (askR aR aM) 1).yes).map encI)), (1922, 1, (((raftMark (askR aR aM) 1).next).map encI)), (1923, 1, (((raftMark (askR aR aM) 1).match_).map encI))] ⟨rfl, ⟨88, (((raftMark (askR aR aM) 1).hard.log).map encEnt), by kernel_rfl, FrzIs.same (allP_encEnt _)⟩, rfl, ⟨3, (((raftMark (askR aR aM) 1).yes).map encI), by kernel_rfl, FrzIs.same (allP_encI _)⟩, rfl, ⟨3, (((raftMark (askR aR aM) 1).next).map encI), by kernel_rfl, FrzIs.same (allP_encI _)⟩, rfl, ⟨3, (((raftMark (askR aR aM) 1).match_).map encI), by kernel_rfl, FrzIs.same (allP_encI _)⟩, trivial⟩ ?_
      refine At.say 156 (.int .i64 (heldRaft (⟨(askR aR aM).id, (askR aR aM).of_, (askR aR aM).role, (askR aR aM).commit, ⟨(askR aR aM).hard.term, (askR aR aM).hard.vote, (raftMark (askR aR aM) 1).hard.log⟩, (raftMark (askR aR aM) 1).yes, (raftMark (askR aR aM) 1).next, (raftMark (askR aR aM) 1).match_⟩ : Raft) 1)) (.int .i64 (raftEnd (askR aR aM) 1)) (by kernel_rfl) (congrArg (V.int .i64) (held_raft (askR aR aM) 1 (by omega))) ?_
      refine At.a 1 ?_
      refine At.done rfl ?_
      refine AW.seq ?_
      refine AW.r ?_
      refine At.a 2 ?_
      refine At.done rfl ?_
      refine AW.condF (decide ((raftEnd (askR aR aM) 1) < 0)) (by kernel_rfl) (decide_eq_false (by have := hke; omega)) ?_
      refine AW.skip ?_
      refine AW.r ?_
      refine At.a 2 ?_
      refine At.c (laws_heldRecS_spec  (marks markR nxR (askRecs aR aM) (raftEnd (askR aR aM) 1)) (raftEnd (askR aR aM) 1) (by rw [marks_len]; omega) (by rw [marks_len]; omega)) Try.call23 false [] [] [(1924, 10, ((marks markR nxR (askRecs aR aM) (raftEnd (askR aR aM) 1)).map encRec))] ⟨rfl, ⟨93, ((marks markR nxR (askRecs aR aM) (raftEnd (askR aR aM) 1)).map encRec), by kernel_rfl, FrzIs.same (allP_encRec _)⟩, trivial⟩ ?_
      refine At.say 161 (.int .i64 (held okR nxR (marks markR nxR (askRecs aR aM) (raftEnd (askR aR aM) 1)) (raftEnd (askR aR aM) 1))) (.int .i64 (ends nxR (askRecs aR aM) (raftEnd (askR aR aM) 1))) (by kernel_rfl) (congrArg (V.int .i64) (held_recs _ _ (by omega))) ?_
      refine At.a 1 ?_
      refine At.done rfl ?_
      refine AW.seq ?_
      refine AW.r ?_
      refine At.a 2 ?_
      refine At.done rfl ?_
      refine AW.condF (decide ((ends nxR (askRecs aR aM) (raftEnd (askR aR aM) 1)) < 0)) (by kernel_rfl) (decide_eq_false (by omega)) ?_
      refine AW.skip ?_
      refine AW.r ?_
      refine At.a 2 ?_
      refine At.c (laws_heldOutS_spec  (marks markO nxO (askOuts aR aM) (ends nxR (askRecs aR aM) (raftEnd (askR aR aM) 1))) (ends nxR (askRecs aR aM) (raftEnd (askR aR aM) 1)) hmf (by omega)) Try.call15 false [] [] [(1925, 17, ((marks markO nxO (askOuts aR aM) (ends nxR (askRecs aR aM) (raftEnd (askR aR aM) 1))).map encOutV))] ⟨rfl, ⟨76, ((marks markO nxO (askOuts aR aM) (ends nxR (askRecs aR aM) (raftEnd (askR aR aM) 1))).map encOut), by kernel_rfl, frzOut _⟩, trivial⟩ ?_
      refine At.say 166 (.int .i64 (heldO (marks markO nxO (askOuts aR aM) (ends nxR (askRecs aR aM) (raftEnd (askR aR aM) 1))) (ends nxR (askRecs aR aM) (raftEnd (askR aR aM) 1)))) (.int .i64 (ends nxO (askOuts aR aM) (ends nxR (askRecs aR aM) (raftEnd (askR aR aM) 1)))) (by kernel_rfl) (congrArg (V.int .i64) (held_outs _ _ (by omega))) ?_
      refine At.a 1 ?_
      refine At.done rfl ?_
      refine AW.seq ?_
      refine AW.r ?_
      refine At.a 2 ?_
      refine At.done rfl ?_
      refine AW.condF (decide ((ends nxO (askOuts aR aM) (ends nxR (askRecs aR aM) (raftEnd (askR aR aM) 1))) < 0)) (by kernel_rfl) (decide_eq_false (by omega)) ?_
      refine AW.skip ?_
      refine AW.seq ?_
      refine AW.r ?_
      refine At.a 3 ?_
      refine At.done rfl ?_
      refine AW.condF ((ends nxO (askOuts aR aM) (ends nxR (askRecs aR aM) (raftEnd (askR aR aM) 1))) != (ends nxO (askOuts aR aM) (ends nxR (askRecs aR aM) (raftEnd (askR aR aM) 1)))) (by kernel_rfl) (by simp) ?_
      refine AW.skip ?_
      refine AW.r ?_
      refine At.a 1 ?_
      refine At.done rfl ?_
      refine AW.ret ?_
      refine ⟨_, Sub.refl _ _, ?_⟩
      exact KF.m [] [.bool true]
end Go.Proofs.Ytlmadhahghiedaa
