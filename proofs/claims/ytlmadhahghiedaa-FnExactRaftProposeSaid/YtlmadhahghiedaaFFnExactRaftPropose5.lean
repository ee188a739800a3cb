/- The contracts of the functions that FnExactRaftPropose reaches (each: what it answers, said over values), printed by a program of this session (wip/sy/g/gen.py). -/
import Derived.Test.YtlmadhahghiedaaFFnExactRaftPropose4
set_option linter.unusedVariables false
set_option linter.unusedSimpArgs false
namespace Go.Proofs.Ytlmadhahghiedaa
open Go Go.Sy Go.Proofs
set_option maxRecDepth 100000 in
set_option maxHeartbeats 4000000 in
theorem laws_markOutS_spec  (a : List Out) (k : Int) (hk : 0 ≤ k) (ha : a.length ≤ 1048576) (he : ends nxO a k ≤ 4611686018427387904) (hea : ∀ o ∈ a, o.msg.entries.length ≤ 1048576) : FnSpec Try.prog 14 [.ref 0, .int .i64 k] [.arr 76 17 (a.map encOut)] (.int .i64 (ends nxO a k)) [.arr 76 17 ((marks markO nxO a k).map encOut)] := by
  refine FnSpec.of 157 Try.func14 rfl Try.ntmps14 (by simp) (AW.weakK ?_)
  refine AW.seq ?_
  refine AW.region (At.start ?_)
  refine At.auto 1 (by kernel_rfl) ?_
  refine At.done rfl ?_
  refine AW.seq ?_
  refine AW.seq ?_
  refine AW.region (At.start ?_)
  refine At.auto 1 (by kernel_rfl) ?_
  refine At.done rfl ?_
  refine AW.block ?_
  refine AW.loopW (fun (x : Nat × Int × List Out) => match x with | (i, kk, o) => Go.Sy.mk [.ref 0, .int .i64 kk, .un, .un, .un, .int .i64 (i : Int)] [(0, .arr 76 17 (o.map encOut))]) (fun (x : Nat × Int × List Out) => match x with | (i, kk, o) => 0 ≤ kk ∧ MInv markO nxO a k i kk o) (fun (x : Nat × Int × List Out) => match x with | (i, kk, o) => a.length - i) (0, k, a) ⟨hk, MInv.start⟩ (Sub.of [(0, 0)] [true, true, false, false, false, true] _ _ (by kernel_rfl) (by kernel_rfl) (by kernel_rfl)) ?_
  rintro ⟨i, kk, o⟩ ⟨hkk, hR⟩
  have hle := hR.ge nxO_ge
  have hlo := hR.2.1
  refine AW.seq ?_
  refine AW.seq ?_
  refine AW.region (At.start ?_)
  refine At.auto 3 (by kernel_rfl) ?_
  refine At.say 8 (.int .i64 (((o.map encOut).length : Nat) : Int)) (.int .i64 (o.length : Int)) (by kernel_rfl) (sayLen _ _) ?_
  refine At.auto 1 (by kernel_rfl) ?_
  refine At.done rfl ?_
  refine AW.cond (decide ((i : Int) < (o.length : Int))) (by kernel_rfl) (fun hb => ?_) (fun hb => ?_)
  · have h1 : (i : Int) < (o.length : Int) := by simpa using hb
    clear hb
    refine AW.skip ?_
    refine AW.seq ?_
    refine AW.block ?_
    refine AW.seq ?_
    refine AW.region (At.start ?_)
    refine At.auto 3 (by kernel_rfl) ?_
    refine At.idxRef (t := 29) (d := 15) (x := .tmp 12) (y := .tmp 13) (j := 0) (xs := (o.map encOut)) (kd := .i64) (i := (i : Int)) (e := 76) (es := 17) (by kernel_rfl) (by kernel_rfl) (by kernel_rfl) (by kernel_rfl) (by kernel_rfl) (by omega) (by first | omega | (simp only [List.length_map, List.length_append, List.length_take, List.length_drop, List.length_replicate, List.length_set, List.length_cons, List.length_nil]; omega)) ?_
    refine At.auto 1 (by kernel_rfl) ?_
    refine Exists.elim (show ∃ e, o[i]? = some e from ⟨_, List.getElem?_eq_getElem (by first | omega | (simp only [List.length_map, List.length_append, List.length_take, List.length_drop, List.length_replicate, List.length_set, List.length_cons, List.length_nil]; omega))⟩) fun e1 he1 => ?_
    have hlt := hR.le nxO_ge he1
    have hge := ends_ge nxE_ge e1.msg.entries (kk + 16)
    rw [nxO] at hlt
    have hen := hea _ (List.mem_of_getElem? (hR.get he1))
    refine At.stEl (t := 3) (i := 0) (e := 76) (es := 17) (j := i) (off := 0) (x := .tmp 16) (y := .tmp 14) (xs := (o.map encOut)) (xs' := ((o.set i (⟨kk, e1.msg⟩ : Out)).map encOut)) (ys := [.int .i64 kk]) (v := .int .i64 kk) (encOut e1) (encOut (⟨kk, e1.msg⟩ : Out)) (by kernel_rfl) (by kernel_rfl) (by kernel_rfl) (by kernel_rfl) (by kernel_rfl) (mapGet he1) (by kernel_rfl) setV ?_
    refine At.done rfl ?_
    refine AW.seq ?_
    refine AW.region (At.start ?_)
    refine At.auto 2 (by kernel_rfl) ?_
    refine At.say 18 (.int .i64 (IntKind.i64.wrap (kk + 1))) (.int .i64 (kk + 1)) (by kernel_rfl) (sayI _ (by omega)) ?_
    refine At.auto 1 (by kernel_rfl) ?_
    refine At.done rfl ?_
    refine AW.seq ?_
    refine AW.region (At.start ?_)
    refine At.auto 3 (by kernel_rfl) ?_
    refine At.idxRef (t := 29) (d := 22) (x := .tmp 19) (y := .tmp 20) (j := 0) (xs := ((o.set i (⟨kk, e1.msg⟩ : Out)).map encOut)) (kd := .i64) (i := (i : Int)) (e := 76) (es := 17) (by kernel_rfl) (by kernel_rfl) (by kernel_rfl) (by kernel_rfl) (by kernel_rfl) (by omega) (by first | omega | (simp only [List.length_map, List.length_append, List.length_take, List.length_drop, List.length_replicate, List.length_set, List.length_cons, List.length_nil]; omega)) ?_
    refine At.auto 2 (by kernel_rfl) ?_
    refine At.stEl (t := 3) (i := 0) (e := 76) (es := 17) (j := i) (off := 1) (x := .tmp 24) (y := .tmp 21) (xs := ((o.set i (⟨kk, e1.msg⟩ : Out)).map encOut)) (xs' := ((o.set i (⟨kk, ⟨kk + 1, e1.msg.from_, e1.msg.term, e1.msg.at_, e1.msg.atTerm, e1.msg.commit, e1.msg.yes, e1.msg.release, e1.msg.part, e1.msg.bytes, ⟨e1.msg.cmd.kind, e1.msg.cmd.release, e1.msg.cmd.node, e1.msg.cmd.size, e1.msg.cmd.digest⟩, e1.msg.entries⟩⟩ : Out)).map encOut)) (ys := [.int .i64 (kk + 1)]) (v := .int .i64 (kk + 1)) (encOut (⟨kk, e1.msg⟩ : Out)) (encOut (⟨kk, ⟨kk + 1, e1.msg.from_, e1.msg.term, e1.msg.at_, e1.msg.atTerm, e1.msg.commit, e1.msg.yes, e1.msg.release, e1.msg.part, e1.msg.bytes, ⟨e1.msg.cmd.kind, e1.msg.cmd.release, e1.msg.cmd.node, e1.msg.cmd.size, e1.msg.cmd.digest⟩, e1.msg.entries⟩⟩ : Out)) (by kernel_rfl) (by kernel_rfl) (by kernel_rfl) (by kernel_rfl) (by kernel_rfl) (mapGet (setGet he1)) (by kernel_rfl) setSetV ?_
    refine At.done rfl ?_
    refine AW.seq ?_
    refine AW.region (At.start ?_)
    refine At.auto 2 (by kernel_rfl) ?_
    refine At.say 26 (.int .i64 (IntKind.i64.wrap ((kk + 1) + 1))) (.int .i64 (kk + 2)) (by kernel_rfl) (sayJ _ (by omega) (by omega)) ?_
    refine At.auto 1 (by kernel_rfl) ?_
    refine At.done rfl ?_
    refine AW.seq ?_
    refine AW.region (At.start ?_)
    refine At.auto 3 (by kernel_rfl) ?_
    refine At.idxRef (t := 29) (d := 30) (x := .tmp 27) (y := .tmp 28) (j := 0) (xs := ((o.set i (⟨kk, ⟨kk + 1, e1.msg.from_, e1.msg.term, e1.msg.at_, e1.msg.atTerm, e1.msg.commit, e1.msg.yes, e1.msg.release, e1.msg.part, e1.msg.bytes, ⟨e1.msg.cmd.kind, e1.msg.cmd.release, e1.msg.cmd.node, e1.msg.cmd.size, e1.msg.cmd.digest⟩, e1.msg.entries⟩⟩ : Out)).map encOut)) (kd := .i64) (i := (i : Int)) (e := 76) (es := 17) (by kernel_rfl) (by kernel_rfl) (by kernel_rfl) (by kernel_rfl) (by kernel_rfl) (by omega) (by first | omega | (simp only [List.length_map, List.length_append, List.length_take, List.length_drop, List.length_replicate, List.length_set, List.length_cons, List.length_nil]; omega)) ?_
    refine At.auto 2 (by kernel_rfl) ?_
    refine At.stEl (t := 3) (i := 0) (e := 76) (es := 17) (j := i) (off := 2) (x := .tmp 32) (y := .tmp 29) (xs := ((o.set i (⟨kk, ⟨kk + 1, e1.msg.from_, e1.msg.term, e1.msg.at_, e1.msg.atTerm, e1.msg.commit, e1.msg.yes, e1.msg.release, e1.msg.part, e1.msg.bytes, ⟨e1.msg.cmd.kind, e1.msg.cmd.release, e1.msg.cmd.node, e1.msg.cmd.size, e1.msg.cmd.digest⟩, e1.msg.entries⟩⟩ : Out)).map encOut)) (xs' := ((o.set i (⟨kk, ⟨kk + 1, kk + 2, e1.msg.term, e1.msg.at_, e1.msg.atTerm, e1.msg.commit, e1.msg.yes, e1.msg.release, e1.msg.part, e1.msg.bytes, ⟨e1.msg.cmd.kind, e1.msg.cmd.release, e1.msg.cmd.node, e1.msg.cmd.size, e1.msg.cmd.digest⟩, e1.msg.entries⟩⟩ : Out)).map encOut)) (ys := [.int .i64 (kk + 2)]) (v := .int .i64 (kk + 2)) (encOut (⟨kk, ⟨kk + 1, e1.msg.from_, e1.msg.term, e1.msg.at_, e1.msg.atTerm, e1.msg.commit, e1.msg.yes, e1.msg.release, e1.msg.part, e1.msg.bytes, ⟨e1.msg.cmd.kind, e1.msg.cmd.release, e1.msg.cmd.node, e1.msg.cmd.size, e1.msg.cmd.digest⟩, e1.msg.entries⟩⟩ : Out)) (encOut (⟨kk, ⟨kk + 1, kk + 2, e1.msg.term, e1.msg.at_, e1.msg.atTerm, e1.msg.commit, e1.msg.yes, e1.msg.release, e1.msg.part, e1.msg.bytes, ⟨e1.msg.cmd.kind, e1.msg.cmd.release, e1.msg.cmd.node, e1.msg.cmd.size, e1.msg.cmd.digest⟩, e1.msg.entries⟩⟩ : Out)) (by kernel_rfl) (by kernel_rfl) (by kernel_rfl) (by kernel_rfl) (by kernel_rfl) (mapGet (setGet he1)) (by kernel_rfl) setSetV ?_
    refine At.done rfl ?_
    refine AW.seq ?_
    refine AW.region (At.start ?_)
    refine At.auto 2 (by kernel_rfl) ?_
    refine At.say 34 (.int .i64 (IntKind.i64.wrap ((kk + 2) + 1))) (.int .i64 (kk + 3)) (by kernel_rfl) (sayJ _ (by omega) (by omega)) ?_
    refine At.auto 1 (by kernel_rfl) ?_
    refine At.done rfl ?_
    refine AW.seq ?_
    refine AW.region (At.start ?_)
    refine At.auto 3 (by kernel_rfl) ?_
    refine At.idxRef (t := 29) (d := 38) (x := .tmp 35) (y := .tmp 36) (j := 0) (xs := ((o.set i (⟨kk, ⟨kk + 1, kk + 2, e1.msg.term, e1.msg.at_, e1.msg.atTerm, e1.msg.commit, e1.msg.yes, e1.msg.release, e1.msg.part, e1.msg.bytes, ⟨e1.msg.cmd.kind, e1.msg.cmd.release, e1.msg.cmd.node, e1.msg.cmd.size, e1.msg.cmd.digest⟩, e1.msg.entries⟩⟩ : Out)).map encOut)) (kd := .i64) (i := (i : Int)) (e := 76) (es := 17) (by kernel_rfl) (by kernel_rfl) (by kernel_rfl) (by kernel_rfl) (by kernel_rfl) (by omega) (by first | omega | (simp only [List.length_map, List.length_append, List.length_take, List.length_drop, List.length_replicate, List.length_set, List.length_cons, List.length_nil]; omega)) ?_
    refine At.auto 2 (by kernel_rfl) ?_
    refine At.stEl (t := 3) (i := 0) (e := 76) (es := 17) (j := i) (off := 3) (x := .tmp 40) (y := .tmp 37) (xs := ((o.set i (⟨kk, ⟨kk + 1, kk + 2, e1.msg.term, e1.msg.at_, e1.msg.atTerm, e1.msg.commit, e1.msg.yes, e1.msg.release, e1.msg.part, e1.msg.bytes, ⟨e1.msg.cmd.kind, e1.msg.cmd.release, e1.msg.cmd.node, e1.msg.cmd.size, e1.msg.cmd.digest⟩, e1.msg.entries⟩⟩ : Out)).map encOut)) (xs' := ((o.set i (⟨kk, ⟨kk + 1, kk + 2, kk + 3, e1.msg.at_, e1.msg.atTerm, e1.msg.commit, e1.msg.yes, e1.msg.release, e1.msg.part, e1.msg.bytes, ⟨e1.msg.cmd.kind, e1.msg.cmd.release, e1.msg.cmd.node, e1.msg.cmd.size, e1.msg.cmd.digest⟩, e1.msg.entries⟩⟩ : Out)).map encOut)) (ys := [.int .i64 (kk + 3)]) (v := .int .i64 (kk + 3)) (encOut (⟨kk, ⟨kk + 1, kk + 2, e1.msg.term, e1.msg.at_, e1.msg.atTerm, e1.msg.commit, e1.msg.yes, e1.msg.release, e1.msg.part, e1.msg.bytes, ⟨e1.msg.cmd.kind, e1.msg.cmd.release, e1.msg.cmd.node, e1.msg.cmd.size, e1.msg.cmd.digest⟩, e1.msg.entries⟩⟩ : Out)) (encOut (⟨kk, ⟨kk + 1, kk + 2, kk + 3, e1.msg.at_, e1.msg.atTerm, e1.msg.commit, e1.msg.yes, e1.msg.release, e1.msg.part, e1.msg.bytes, ⟨e1.msg.cmd.kind, e1.msg.cmd.release, e1.msg.cmd.node, e1.msg.cmd.size, e1.msg.cmd.digest⟩, e1.msg.entries⟩⟩ : Out)) (by kernel_rfl) (by kernel_rfl) (by kernel_rfl) (by kernel_rfl) (by kernel_rfl) (mapGet (setGet he1)) (by kernel_rfl) setSetV ?_
    refine At.done rfl ?_
    refine AW.seq ?_
    refine AW.region (At.start ?_)
    refine At.auto 2 (by kernel_rfl) ?_
    refine At.say 42 (.int .i64 (IntKind.i64.wrap ((kk + 3) + 1))) (.int .i64 (kk + 4)) (by kernel_rfl) (sayJ _ (by omega) (by omega)) ?_
    refine At.auto 1 (by kernel_rfl) ?_
    refine At.done rfl ?_
    refine AW.seq ?_
    refine AW.region (At.start ?_)
    refine At.auto 3 (by kernel_rfl) ?_
    refine At.idxRef (t := 29) (d := 46) (x := .tmp 43) (y := .tmp 44) (j := 0) (xs := ((o.set i (⟨kk, ⟨kk + 1, kk + 2, kk + 3, e1.msg.at_, e1.msg.atTerm, e1.msg.commit, e1.msg.yes, e1.msg.release, e1.msg.part, e1.msg.bytes, ⟨e1.msg.cmd.kind, e1.msg.cmd.release, e1.msg.cmd.node, e1.msg.cmd.size, e1.msg.cmd.digest⟩, e1.msg.entries⟩⟩ : Out)).map encOut)) (kd := .i64) (i := (i : Int)) (e := 76) (es := 17) (by kernel_rfl) (by kernel_rfl) (by kernel_rfl) (by kernel_rfl) (by kernel_rfl) (by omega) (by first | omega | (simp only [List.length_map, List.length_append, List.length_take, List.length_drop, List.length_replicate, List.length_set, List.length_cons, List.length_nil]; omega)) ?_
    refine At.auto 2 (by kernel_rfl) ?_
    refine At.stEl (t := 3) (i := 0) (e := 76) (es := 17) (j := i) (off := 4) (x := .tmp 48) (y := .tmp 45) (xs := ((o.set i (⟨kk, ⟨kk + 1, kk + 2, kk + 3, e1.msg.at_, e1.msg.atTerm, e1.msg.commit, e1.msg.yes, e1.msg.release, e1.msg.part, e1.msg.bytes, ⟨e1.msg.cmd.kind, e1.msg.cmd.release, e1.msg.cmd.node, e1.msg.cmd.size, e1.msg.cmd.digest⟩, e1.msg.entries⟩⟩ : Out)).map encOut)) (xs' := ((o.set i (⟨kk, ⟨kk + 1, kk + 2, kk + 3, kk + 4, e1.msg.atTerm, e1.msg.commit, e1.msg.yes, e1.msg.release, e1.msg.part, e1.msg.bytes, ⟨e1.msg.cmd.kind, e1.msg.cmd.release, e1.msg.cmd.node, e1.msg.cmd.size, e1.msg.cmd.digest⟩, e1.msg.entries⟩⟩ : Out)).map encOut)) (ys := [.int .i64 (kk + 4)]) (v := .int .i64 (kk + 4)) (encOut (⟨kk, ⟨kk + 1, kk + 2, kk + 3, e1.msg.at_, e1.msg.atTerm, e1.msg.commit, e1.msg.yes, e1.msg.release, e1.msg.part, e1.msg.bytes, ⟨e1.msg.cmd.kind, e1.msg.cmd.release, e1.msg.cmd.node, e1.msg.cmd.size, e1.msg.cmd.digest⟩, e1.msg.entries⟩⟩ : Out)) (encOut (⟨kk, ⟨kk + 1, kk + 2, kk + 3, kk + 4, e1.msg.atTerm, e1.msg.commit, e1.msg.yes, e1.msg.release, e1.msg.part, e1.msg.bytes, ⟨e1.msg.cmd.kind, e1.msg.cmd.release, e1.msg.cmd.node, e1.msg.cmd.size, e1.msg.cmd.digest⟩, e1.msg.entries⟩⟩ : Out)) (by kernel_rfl) (by kernel_rfl) (by kernel_rfl) (by kernel_rfl) (by kernel_rfl) (mapGet (setGet he1)) (by kernel_rfl) setSetV ?_
    refine At.done rfl ?_
    refine AW.seq ?_
    refine AW.region (At.start ?_)
    refine At.auto 2 (by kernel_rfl) ?_
    refine At.say 50 (.int .i64 (IntKind.i64.wrap ((kk + 4) + 1))) (.int .i64 (kk + 5)) (by kernel_rfl) (sayJ _ (by omega) (by omega)) ?_
    refine At.auto 1 (by kernel_rfl) ?_
    refine At.done rfl ?_
    refine AW.seq ?_
    refine AW.region (At.start ?_)
    refine At.auto 3 (by kernel_rfl) ?_
    refine At.idxRef (t := 29) (d := 54) (x := .tmp 51) (y := .tmp 52) (j := 0) (xs := ((o.set i (⟨kk, ⟨kk + 1, kk + 2, kk + 3, kk + 4, e1.msg.atTerm, e1.msg.commit, e1.msg.yes, e1.msg.release, e1.msg.part, e1.msg.bytes, ⟨e1.msg.cmd.kind, e1.msg.cmd.release, e1.msg.cmd.node, e1.msg.cmd.size, e1.msg.cmd.digest⟩, e1.msg.entries⟩⟩ : Out)).map encOut)) (kd := .i64) (i := (i : Int)) (e := 76) (es := 17) (by kernel_rfl) (by kernel_rfl) (by kernel_rfl) (by kernel_rfl) (by kernel_rfl) (by omega) (by first | omega | (simp only [List.length_map, List.length_append, List.length_take, List.length_drop, List.length_replicate, List.length_set, List.length_cons, List.length_nil]; omega)) ?_
    refine At.auto 2 (by kernel_rfl) ?_
    refine At.stEl (t := 3) (i := 0) (e := 76) (es := 17) (j := i) (off := 5) (x := .tmp 56) (y := .tmp 53) (xs := ((o.set i (⟨kk, ⟨kk + 1, kk + 2, kk + 3, kk + 4, e1.msg.atTerm, e1.msg.commit, e1.msg.yes, e1.msg.release, e1.msg.part, e1.msg.bytes, ⟨e1.msg.cmd.kind, e1.msg.cmd.release, e1.msg.cmd.node, e1.msg.cmd.size, e1.msg.cmd.digest⟩, e1.msg.entries⟩⟩ : Out)).map encOut)) (xs' := ((o.set i (⟨kk, ⟨kk + 1, kk + 2, kk + 3, kk + 4, kk + 5, e1.msg.commit, e1.msg.yes, e1.msg.release, e1.msg.part, e1.msg.bytes, ⟨e1.msg.cmd.kind, e1.msg.cmd.release, e1.msg.cmd.node, e1.msg.cmd.size, e1.msg.cmd.digest⟩, e1.msg.entries⟩⟩ : Out)).map encOut)) (ys := [.int .i64 (kk + 5)]) (v := .int .i64 (kk + 5)) (encOut (⟨kk, ⟨kk + 1, kk + 2, kk + 3, kk + 4, e1.msg.atTerm, e1.msg.commit, e1.msg.yes, e1.msg.release, e1.msg.part, e1.msg.bytes, ⟨e1.msg.cmd.kind, e1.msg.cmd.release, e1.msg.cmd.node, e1.msg.cmd.size, e1.msg.cmd.digest⟩, e1.msg.entries⟩⟩ : Out)) (encOut (⟨kk, ⟨kk + 1, kk + 2, kk + 3, kk + 4, kk + 5, e1.msg.commit, e1.msg.yes, e1.msg.release, e1.msg.part, e1.msg.bytes, ⟨e1.msg.cmd.kind, e1.msg.cmd.release, e1.msg.cmd.node, e1.msg.cmd.size, e1.msg.cmd.digest⟩, e1.msg.entries⟩⟩ : Out)) (by kernel_rfl) (by kernel_rfl) (by kernel_rfl) (by kernel_rfl) (by kernel_rfl) (mapGet (setGet he1)) (by kernel_rfl) setSetV ?_
    refine At.done rfl ?_
    refine AW.seq ?_
    refine AW.region (At.start ?_)
    refine At.auto 2 (by kernel_rfl) ?_
    refine At.say 58 (.int .i64 (IntKind.i64.wrap ((kk + 5) + 1))) (.int .i64 (kk + 6)) (by kernel_rfl) (sayJ _ (by omega) (by omega)) ?_
    refine At.auto 1 (by kernel_rfl) ?_
    refine At.done rfl ?_
    refine AW.seq ?_
    refine AW.region (At.start ?_)
    refine At.auto 3 (by kernel_rfl) ?_
    refine At.idxRef (t := 29) (d := 62) (x := .tmp 59) (y := .tmp 60) (j := 0) (xs := ((o.set i (⟨kk, ⟨kk + 1, kk + 2, kk + 3, kk + 4, kk + 5, e1.msg.commit, e1.msg.yes, e1.msg.release, e1.msg.part, e1.msg.bytes, ⟨e1.msg.cmd.kind, e1.msg.cmd.release, e1.msg.cmd.node, e1.msg.cmd.size, e1.msg.cmd.digest⟩, e1.msg.entries⟩⟩ : Out)).map encOut)) (kd := .i64) (i := (i : Int)) (e := 76) (es := 17) (by kernel_rfl) (by kernel_rfl) (by kernel_rfl) (by kernel_rfl) (by kernel_rfl) (by omega) (by first | omega | (simp only [List.length_map, List.length_append, List.length_take, List.length_drop, List.length_replicate, List.length_set, List.length_cons, List.length_nil]; omega)) ?_
    refine At.auto 2 (by kernel_rfl) ?_
    refine At.stEl (t := 3) (i := 0) (e := 76) (es := 17) (j := i) (off := 6) (x := .tmp 64) (y := .tmp 61) (xs := ((o.set i (⟨kk, ⟨kk + 1, kk + 2, kk + 3, kk + 4, kk + 5, e1.msg.commit, e1.msg.yes, e1.msg.release, e1.msg.part, e1.msg.bytes, ⟨e1.msg.cmd.kind, e1.msg.cmd.release, e1.msg.cmd.node, e1.msg.cmd.size, e1.msg.cmd.digest⟩, e1.msg.entries⟩⟩ : Out)).map encOut)) (xs' := ((o.set i (⟨kk, ⟨kk + 1, kk + 2, kk + 3, kk + 4, kk + 5, kk + 6, e1.msg.yes, e1.msg.release, e1.msg.part, e1.msg.bytes, ⟨e1.msg.cmd.kind, e1.msg.cmd.release, e1.msg.cmd.node, e1.msg.cmd.size, e1.msg.cmd.digest⟩, e1.msg.entries⟩⟩ : Out)).map encOut)) (ys := [.int .i64 (kk + 6)]) (v := .int .i64 (kk + 6)) (encOut (⟨kk, ⟨kk + 1, kk + 2, kk + 3, kk + 4, kk + 5, e1.msg.commit, e1.msg.yes, e1.msg.release, e1.msg.part, e1.msg.bytes, ⟨e1.msg.cmd.kind, e1.msg.cmd.release, e1.msg.cmd.node, e1.msg.cmd.size, e1.msg.cmd.digest⟩, e1.msg.entries⟩⟩ : Out)) (encOut (⟨kk, ⟨kk + 1, kk + 2, kk + 3, kk + 4, kk + 5, kk + 6, e1.msg.yes, e1.msg.release, e1.msg.part, e1.msg.bytes, ⟨e1.msg.cmd.kind, e1.msg.cmd.release, e1.msg.cmd.node, e1.msg.cmd.size, e1.msg.cmd.digest⟩, e1.msg.entries⟩⟩ : Out)) (by kernel_rfl) (by kernel_rfl) (by kernel_rfl) (by kernel_rfl) (by kernel_rfl) (mapGet (setGet he1)) (by kernel_rfl) setSetV ?_
    refine At.done rfl ?_
    refine AW.seq ?_
    refine AW.region (At.start ?_)
    refine At.auto 2 (by kernel_rfl) ?_
    refine At.say 66 (.int .i64 (IntKind.i64.wrap ((kk + 6) + 1))) (.int .i64 (kk + 7)) (by kernel_rfl) (sayJ _ (by omega) (by omega)) ?_
    refine At.auto 1 (by kernel_rfl) ?_
    refine At.done rfl ?_
    refine AW.seq ?_
    refine AW.region (At.start ?_)
    refine At.auto 3 (by kernel_rfl) ?_
    refine At.div (t := 3) (u := 3) (d := 70) (op := .rem) (x := .tmp 69) (y := .const (.int .i64 3)) (kd := .i64) (a := kk + 7) (b := 3) (by kernel_rfl) (by kernel_rfl) (by kernel_rfl) (by kernel_rfl) (by omega) (.int .i64 ((kk + 7).tmod 3)) (.inr ⟨rfl, rfl⟩) ?_
    refine At.say 70 (.int .i64 ((kk + 7).tmod 3)) (.int .i64 ((kk + 7) % 3)) (by kernel_rfl) (sayRem (by omega)) ?_
    refine At.auto 1 (by kernel_rfl) ?_
    refine At.idxRef (t := 29) (d := 72) (x := .tmp 67) (y := .tmp 68) (j := 0) (xs := ((o.set i (⟨kk, ⟨kk + 1, kk + 2, kk + 3, kk + 4, kk + 5, kk + 6, e1.msg.yes, e1.msg.release, e1.msg.part, e1.msg.bytes, ⟨e1.msg.cmd.kind, e1.msg.cmd.release, e1.msg.cmd.node, e1.msg.cmd.size, e1.msg.cmd.digest⟩, e1.msg.entries⟩⟩ : Out)).map encOut)) (kd := .i64) (i := (i : Int)) (e := 76) (es := 17) (by kernel_rfl) (by kernel_rfl) (by kernel_rfl) (by kernel_rfl) (by kernel_rfl) (by omega) (by first | omega | (simp only [List.length_map, List.length_append, List.length_take, List.length_drop, List.length_replicate, List.length_set, List.length_cons, List.length_nil]; omega)) ?_
    refine At.auto 2 (by kernel_rfl) ?_
    refine At.stEl (t := 4) (i := 0) (e := 76) (es := 17) (j := i) (off := 7) (x := .tmp 74) (y := .tmp 71) (xs := ((o.set i (⟨kk, ⟨kk + 1, kk + 2, kk + 3, kk + 4, kk + 5, kk + 6, e1.msg.yes, e1.msg.release, e1.msg.part, e1.msg.bytes, ⟨e1.msg.cmd.kind, e1.msg.cmd.release, e1.msg.cmd.node, e1.msg.cmd.size, e1.msg.cmd.digest⟩, e1.msg.entries⟩⟩ : Out)).map encOut)) (xs' := ((o.set i (⟨kk, ⟨kk + 1, kk + 2, kk + 3, kk + 4, kk + 5, kk + 6, ((kk + 7) % 3) == 0, e1.msg.release, e1.msg.part, e1.msg.bytes, ⟨e1.msg.cmd.kind, e1.msg.cmd.release, e1.msg.cmd.node, e1.msg.cmd.size, e1.msg.cmd.digest⟩, e1.msg.entries⟩⟩ : Out)).map encOut)) (ys := [.bool (((kk + 7) % 3) == 0)]) (v := .bool (((kk + 7) % 3) == 0)) (encOut (⟨kk, ⟨kk + 1, kk + 2, kk + 3, kk + 4, kk + 5, kk + 6, e1.msg.yes, e1.msg.release, e1.msg.part, e1.msg.bytes, ⟨e1.msg.cmd.kind, e1.msg.cmd.release, e1.msg.cmd.node, e1.msg.cmd.size, e1.msg.cmd.digest⟩, e1.msg.entries⟩⟩ : Out)) (encOut (⟨kk, ⟨kk + 1, kk + 2, kk + 3, kk + 4, kk + 5, kk + 6, ((kk + 7) % 3) == 0, e1.msg.release, e1.msg.part, e1.msg.bytes, ⟨e1.msg.cmd.kind, e1.msg.cmd.release, e1.msg.cmd.node, e1.msg.cmd.size, e1.msg.cmd.digest⟩, e1.msg.entries⟩⟩ : Out)) (by kernel_rfl) (by kernel_rfl) (by kernel_rfl) (by kernel_rfl) (by kernel_rfl) (mapGet (setGet he1)) (by kernel_rfl) setSetV ?_
    refine At.done rfl ?_
    refine AW.seq ?_
    refine AW.region (At.start ?_)
    refine At.auto 2 (by kernel_rfl) ?_
    refine At.say 76 (.int .i64 (IntKind.i64.wrap ((kk + 7) + 1))) (.int .i64 (kk + 8)) (by kernel_rfl) (sayJ _ (by omega) (by omega)) ?_
    refine At.auto 1 (by kernel_rfl) ?_
    refine At.done rfl ?_
    refine AW.seq ?_
    refine AW.region (At.start ?_)
    refine At.auto 3 (by kernel_rfl) ?_
    refine At.idxRef (t := 29) (d := 80) (x := .tmp 77) (y := .tmp 78) (j := 0) (xs := ((o.set i (⟨kk, ⟨kk + 1, kk + 2, kk + 3, kk + 4, kk + 5, kk + 6, ((kk + 7) % 3) == 0, e1.msg.release, e1.msg.part, e1.msg.bytes, ⟨e1.msg.cmd.kind, e1.msg.cmd.release, e1.msg.cmd.node, e1.msg.cmd.size, e1.msg.cmd.digest⟩, e1.msg.entries⟩⟩ : Out)).map encOut)) (kd := .i64) (i := (i : Int)) (e := 76) (es := 17) (by kernel_rfl) (by kernel_rfl) (by kernel_rfl) (by kernel_rfl) (by kernel_rfl) (by omega) (by first | omega | (simp only [List.length_map, List.length_append, List.length_take, List.length_drop, List.length_replicate, List.length_set, List.length_cons, List.length_nil]; omega)) ?_
    refine At.auto 2 (by kernel_rfl) ?_
    refine At.stEl (t := 3) (i := 0) (e := 76) (es := 17) (j := i) (off := 8) (x := .tmp 82) (y := .tmp 79) (xs := ((o.set i (⟨kk, ⟨kk + 1, kk + 2, kk + 3, kk + 4, kk + 5, kk + 6, ((kk + 7) % 3) == 0, e1.msg.release, e1.msg.part, e1.msg.bytes, ⟨e1.msg.cmd.kind, e1.msg.cmd.release, e1.msg.cmd.node, e1.msg.cmd.size, e1.msg.cmd.digest⟩, e1.msg.entries⟩⟩ : Out)).map encOut)) (xs' := ((o.set i (⟨kk, ⟨kk + 1, kk + 2, kk + 3, kk + 4, kk + 5, kk + 6, ((kk + 7) % 3) == 0, kk + 8, e1.msg.part, e1.msg.bytes, ⟨e1.msg.cmd.kind, e1.msg.cmd.release, e1.msg.cmd.node, e1.msg.cmd.size, e1.msg.cmd.digest⟩, e1.msg.entries⟩⟩ : Out)).map encOut)) (ys := [.int .i64 (kk + 8)]) (v := .int .i64 (kk + 8)) (encOut (⟨kk, ⟨kk + 1, kk + 2, kk + 3, kk + 4, kk + 5, kk + 6, ((kk + 7) % 3) == 0, e1.msg.release, e1.msg.part, e1.msg.bytes, ⟨e1.msg.cmd.kind, e1.msg.cmd.release, e1.msg.cmd.node, e1.msg.cmd.size, e1.msg.cmd.digest⟩, e1.msg.entries⟩⟩ : Out)) (encOut (⟨kk, ⟨kk + 1, kk + 2, kk + 3, kk + 4, kk + 5, kk + 6, ((kk + 7) % 3) == 0, kk + 8, e1.msg.part, e1.msg.bytes, ⟨e1.msg.cmd.kind, e1.msg.cmd.release, e1.msg.cmd.node, e1.msg.cmd.size, e1.msg.cmd.digest⟩, e1.msg.entries⟩⟩ : Out)) (by kernel_rfl) (by kernel_rfl) (by kernel_rfl) (by kernel_rfl) (by kernel_rfl) (mapGet (setGet he1)) (by kernel_rfl) setSetV ?_
    refine At.done rfl ?_
    refine AW.seq ?_
    refine AW.region (At.start ?_)
    refine At.auto 2 (by kernel_rfl) ?_
    refine At.say 84 (.int .i64 (IntKind.i64.wrap ((kk + 8) + 1))) (.int .i64 (kk + 9)) (by kernel_rfl) (sayJ _ (by omega) (by omega)) ?_
    refine At.auto 1 (by kernel_rfl) ?_
    refine At.done rfl ?_
    refine AW.seq ?_
    refine AW.region (At.start ?_)
    refine At.auto 3 (by kernel_rfl) ?_
    refine At.idxRef (t := 29) (d := 88) (x := .tmp 85) (y := .tmp 86) (j := 0) (xs := ((o.set i (⟨kk, ⟨kk + 1, kk + 2, kk + 3, kk + 4, kk + 5, kk + 6, ((kk + 7) % 3) == 0, kk + 8, e1.msg.part, e1.msg.bytes, ⟨e1.msg.cmd.kind, e1.msg.cmd.release, e1.msg.cmd.node, e1.msg.cmd.size, e1.msg.cmd.digest⟩, e1.msg.entries⟩⟩ : Out)).map encOut)) (kd := .i64) (i := (i : Int)) (e := 76) (es := 17) (by kernel_rfl) (by kernel_rfl) (by kernel_rfl) (by kernel_rfl) (by kernel_rfl) (by omega) (by first | omega | (simp only [List.length_map, List.length_append, List.length_take, List.length_drop, List.length_replicate, List.length_set, List.length_cons, List.length_nil]; omega)) ?_
    refine At.auto 2 (by kernel_rfl) ?_
    refine At.stEl (t := 3) (i := 0) (e := 76) (es := 17) (j := i) (off := 9) (x := .tmp 90) (y := .tmp 87) (xs := ((o.set i (⟨kk, ⟨kk + 1, kk + 2, kk + 3, kk + 4, kk + 5, kk + 6, ((kk + 7) % 3) == 0, kk + 8, e1.msg.part, e1.msg.bytes, ⟨e1.msg.cmd.kind, e1.msg.cmd.release, e1.msg.cmd.node, e1.msg.cmd.size, e1.msg.cmd.digest⟩, e1.msg.entries⟩⟩ : Out)).map encOut)) (xs' := ((o.set i (⟨kk, ⟨kk + 1, kk + 2, kk + 3, kk + 4, kk + 5, kk + 6, ((kk + 7) % 3) == 0, kk + 8, kk + 9, e1.msg.bytes, ⟨e1.msg.cmd.kind, e1.msg.cmd.release, e1.msg.cmd.node, e1.msg.cmd.size, e1.msg.cmd.digest⟩, e1.msg.entries⟩⟩ : Out)).map encOut)) (ys := [.int .i64 (kk + 9)]) (v := .int .i64 (kk + 9)) (encOut (⟨kk, ⟨kk + 1, kk + 2, kk + 3, kk + 4, kk + 5, kk + 6, ((kk + 7) % 3) == 0, kk + 8, e1.msg.part, e1.msg.bytes, ⟨e1.msg.cmd.kind, e1.msg.cmd.release, e1.msg.cmd.node, e1.msg.cmd.size, e1.msg.cmd.digest⟩, e1.msg.entries⟩⟩ : Out)) (encOut (⟨kk, ⟨kk + 1, kk + 2, kk + 3, kk + 4, kk + 5, kk + 6, ((kk + 7) % 3) == 0, kk + 8, kk + 9, e1.msg.bytes, ⟨e1.msg.cmd.kind, e1.msg.cmd.release, e1.msg.cmd.node, e1.msg.cmd.size, e1.msg.cmd.digest⟩, e1.msg.entries⟩⟩ : Out)) (by kernel_rfl) (by kernel_rfl) (by kernel_rfl) (by kernel_rfl) (by kernel_rfl) (mapGet (setGet he1)) (by kernel_rfl) setSetV ?_
    refine At.done rfl ?_
    refine AW.seq ?_
    refine AW.region (At.start ?_)
    refine At.auto 2 (by kernel_rfl) ?_
    refine At.say 92 (.int .i64 (IntKind.i64.wrap ((kk + 9) + 1))) (.int .i64 (kk + 10)) (by kernel_rfl) (sayJ _ (by omega) (by omega)) ?_
    refine At.auto 1 (by kernel_rfl) ?_
    refine At.done rfl ?_
    refine AW.seq ?_
    refine AW.region (At.start ?_)
    refine At.auto 3 (by kernel_rfl) ?_
    refine At.call (laws_markText_spec  (kk + 10) (by first | omega | (dsimp only; omega) | (simp only [List.length_map, List.length_append, List.length_take, List.length_drop, List.length_replicate, List.length_set, List.length_cons, List.length_nil]; omega))) Try.call48 true [] [] [] (by kernel_rfl) (by kernel_rfl) (by kernel_rfl) (by kernel_rfl) (by kernel_rfl) trivial ?_
    refine At.idxRef (t := 29) (d := 97) (x := .tmp 93) (y := .tmp 94) (j := 0) (xs := ((o.set i (⟨kk, ⟨kk + 1, kk + 2, kk + 3, kk + 4, kk + 5, kk + 6, ((kk + 7) % 3) == 0, kk + 8, kk + 9, e1.msg.bytes, ⟨e1.msg.cmd.kind, e1.msg.cmd.release, e1.msg.cmd.node, e1.msg.cmd.size, e1.msg.cmd.digest⟩, e1.msg.entries⟩⟩ : Out)).map encOut)) (kd := .i64) (i := (i : Int)) (e := 76) (es := 17) (by kernel_rfl) (by kernel_rfl) (by kernel_rfl) (by kernel_rfl) (by kernel_rfl) (by omega) (by first | omega | (simp only [List.length_map, List.length_append, List.length_take, List.length_drop, List.length_replicate, List.length_set, List.length_cons, List.length_nil]; omega)) ?_
    refine At.auto 2 (by kernel_rfl) ?_
    refine At.stEl (t := 9) (i := 0) (e := 76) (es := 17) (j := i) (off := 10) (x := .tmp 99) (y := .tmp 96) (xs := ((o.set i (⟨kk, ⟨kk + 1, kk + 2, kk + 3, kk + 4, kk + 5, kk + 6, ((kk + 7) % 3) == 0, kk + 8, kk + 9, e1.msg.bytes, ⟨e1.msg.cmd.kind, e1.msg.cmd.release, e1.msg.cmd.node, e1.msg.cmd.size, e1.msg.cmd.digest⟩, e1.msg.entries⟩⟩ : Out)).map encOut)) (xs' := ((o.set i (⟨kk, ⟨kk + 1, kk + 2, kk + 3, kk + 4, kk + 5, kk + 6, ((kk + 7) % 3) == 0, kk + 8, kk + 9, markT (kk + 10), ⟨e1.msg.cmd.kind, e1.msg.cmd.release, e1.msg.cmd.node, e1.msg.cmd.size, e1.msg.cmd.digest⟩, e1.msg.entries⟩⟩ : Out)).map encOut)) (ys := [.str (markT (kk + 10))]) (v := .str (markT (kk + 10))) (encOut (⟨kk, ⟨kk + 1, kk + 2, kk + 3, kk + 4, kk + 5, kk + 6, ((kk + 7) % 3) == 0, kk + 8, kk + 9, e1.msg.bytes, ⟨e1.msg.cmd.kind, e1.msg.cmd.release, e1.msg.cmd.node, e1.msg.cmd.size, e1.msg.cmd.digest⟩, e1.msg.entries⟩⟩ : Out)) (encOut (⟨kk, ⟨kk + 1, kk + 2, kk + 3, kk + 4, kk + 5, kk + 6, ((kk + 7) % 3) == 0, kk + 8, kk + 9, markT (kk + 10), ⟨e1.msg.cmd.kind, e1.msg.cmd.release, e1.msg.cmd.node, e1.msg.cmd.size, e1.msg.cmd.digest⟩, e1.msg.entries⟩⟩ : Out)) (by kernel_rfl) (by kernel_rfl) (by kernel_rfl) (by kernel_rfl) (by kernel_rfl) (mapGet (setGet he1)) (by kernel_rfl) setSetV ?_
    refine At.done rfl ?_
    refine AW.seq ?_
    refine AW.region (At.start ?_)
    refine At.auto 2 (by kernel_rfl) ?_
    refine At.say 101 (.int .i64 (IntKind.i64.wrap ((kk + 10) + 1))) (.int .i64 (kk + 11)) (by kernel_rfl) (sayJ _ (by omega) (by omega)) ?_
    refine At.auto 1 (by kernel_rfl) ?_
    refine At.done rfl ?_
    refine AW.seq ?_
    refine AW.region (At.start ?_)
    refine At.auto 3 (by kernel_rfl) ?_
    refine At.idxRef (t := 29) (d := 105) (x := .tmp 102) (y := .tmp 103) (j := 0) (xs := ((o.set i (⟨kk, ⟨kk + 1, kk + 2, kk + 3, kk + 4, kk + 5, kk + 6, ((kk + 7) % 3) == 0, kk + 8, kk + 9, markT (kk + 10), ⟨e1.msg.cmd.kind, e1.msg.cmd.release, e1.msg.cmd.node, e1.msg.cmd.size, e1.msg.cmd.digest⟩, e1.msg.entries⟩⟩ : Out)).map encOut)) (kd := .i64) (i := (i : Int)) (e := 76) (es := 17) (by kernel_rfl) (by kernel_rfl) (by kernel_rfl) (by kernel_rfl) (by kernel_rfl) (by omega) (by first | omega | (simp only [List.length_map, List.length_append, List.length_take, List.length_drop, List.length_replicate, List.length_set, List.length_cons, List.length_nil]; omega)) ?_
    refine At.auto 3 (by kernel_rfl) ?_
    refine At.stEl (t := 3) (i := 0) (e := 76) (es := 17) (j := i) (off := 11) (x := .tmp 108) (y := .tmp 104) (xs := ((o.set i (⟨kk, ⟨kk + 1, kk + 2, kk + 3, kk + 4, kk + 5, kk + 6, ((kk + 7) % 3) == 0, kk + 8, kk + 9, markT (kk + 10), ⟨e1.msg.cmd.kind, e1.msg.cmd.release, e1.msg.cmd.node, e1.msg.cmd.size, e1.msg.cmd.digest⟩, e1.msg.entries⟩⟩ : Out)).map encOut)) (xs' := ((o.set i (⟨kk, ⟨kk + 1, kk + 2, kk + 3, kk + 4, kk + 5, kk + 6, ((kk + 7) % 3) == 0, kk + 8, kk + 9, markT (kk + 10), ⟨kk + 11, e1.msg.cmd.release, e1.msg.cmd.node, e1.msg.cmd.size, e1.msg.cmd.digest⟩, e1.msg.entries⟩⟩ : Out)).map encOut)) (ys := [.int .i64 (kk + 11)]) (v := .int .i64 (kk + 11)) (encOut (⟨kk, ⟨kk + 1, kk + 2, kk + 3, kk + 4, kk + 5, kk + 6, ((kk + 7) % 3) == 0, kk + 8, kk + 9, markT (kk + 10), ⟨e1.msg.cmd.kind, e1.msg.cmd.release, e1.msg.cmd.node, e1.msg.cmd.size, e1.msg.cmd.digest⟩, e1.msg.entries⟩⟩ : Out)) (encOut (⟨kk, ⟨kk + 1, kk + 2, kk + 3, kk + 4, kk + 5, kk + 6, ((kk + 7) % 3) == 0, kk + 8, kk + 9, markT (kk + 10), ⟨kk + 11, e1.msg.cmd.release, e1.msg.cmd.node, e1.msg.cmd.size, e1.msg.cmd.digest⟩, e1.msg.entries⟩⟩ : Out)) (by kernel_rfl) (by kernel_rfl) (by kernel_rfl) (by kernel_rfl) (by kernel_rfl) (mapGet (setGet he1)) (by kernel_rfl) setSetV ?_
    refine At.done rfl ?_
    refine AW.seq ?_
    refine AW.region (At.start ?_)
    refine At.auto 2 (by kernel_rfl) ?_
    refine At.say 110 (.int .i64 (IntKind.i64.wrap ((kk + 11) + 1))) (.int .i64 (kk + 12)) (by kernel_rfl) (sayJ _ (by omega) (by omega)) ?_
    refine At.auto 1 (by kernel_rfl) ?_
    refine At.done rfl ?_
    refine AW.seq ?_
    refine AW.region (At.start ?_)
    refine At.auto 3 (by kernel_rfl) ?_
    refine At.idxRef (t := 29) (d := 114) (x := .tmp 111) (y := .tmp 112) (j := 0) (xs := ((o.set i (⟨kk, ⟨kk + 1, kk + 2, kk + 3, kk + 4, kk + 5, kk + 6, ((kk + 7) % 3) == 0, kk + 8, kk + 9, markT (kk + 10), ⟨kk + 11, e1.msg.cmd.release, e1.msg.cmd.node, e1.msg.cmd.size, e1.msg.cmd.digest⟩, e1.msg.entries⟩⟩ : Out)).map encOut)) (kd := .i64) (i := (i : Int)) (e := 76) (es := 17) (by kernel_rfl) (by kernel_rfl) (by kernel_rfl) (by kernel_rfl) (by kernel_rfl) (by omega) (by first | omega | (simp only [List.length_map, List.length_append, List.length_take, List.length_drop, List.length_replicate, List.length_set, List.length_cons, List.length_nil]; omega)) ?_
    refine At.auto 3 (by kernel_rfl) ?_
    refine At.stEl (t := 3) (i := 0) (e := 76) (es := 17) (j := i) (off := 12) (x := .tmp 117) (y := .tmp 113) (xs := ((o.set i (⟨kk, ⟨kk + 1, kk + 2, kk + 3, kk + 4, kk + 5, kk + 6, ((kk + 7) % 3) == 0, kk + 8, kk + 9, markT (kk + 10), ⟨kk + 11, e1.msg.cmd.release, e1.msg.cmd.node, e1.msg.cmd.size, e1.msg.cmd.digest⟩, e1.msg.entries⟩⟩ : Out)).map encOut)) (xs' := ((o.set i (⟨kk, ⟨kk + 1, kk + 2, kk + 3, kk + 4, kk + 5, kk + 6, ((kk + 7) % 3) == 0, kk + 8, kk + 9, markT (kk + 10), ⟨kk + 11, kk + 12, e1.msg.cmd.node, e1.msg.cmd.size, e1.msg.cmd.digest⟩, e1.msg.entries⟩⟩ : Out)).map encOut)) (ys := [.int .i64 (kk + 12)]) (v := .int .i64 (kk + 12)) (encOut (⟨kk, ⟨kk + 1, kk + 2, kk + 3, kk + 4, kk + 5, kk + 6, ((kk + 7) % 3) == 0, kk + 8, kk + 9, markT (kk + 10), ⟨kk + 11, e1.msg.cmd.release, e1.msg.cmd.node, e1.msg.cmd.size, e1.msg.cmd.digest⟩, e1.msg.entries⟩⟩ : Out)) (encOut (⟨kk, ⟨kk + 1, kk + 2, kk + 3, kk + 4, kk + 5, kk + 6, ((kk + 7) % 3) == 0, kk + 8, kk + 9, markT (kk + 10), ⟨kk + 11, kk + 12, e1.msg.cmd.node, e1.msg.cmd.size, e1.msg.cmd.digest⟩, e1.msg.entries⟩⟩ : Out)) (by kernel_rfl) (by kernel_rfl) (by kernel_rfl) (by kernel_rfl) (by kernel_rfl) (mapGet (setGet he1)) (by kernel_rfl) setSetV ?_
    refine At.done rfl ?_
    refine AW.seq ?_
    refine AW.region (At.start ?_)
    refine At.auto 2 (by kernel_rfl) ?_
    refine At.say 119 (.int .i64 (IntKind.i64.wrap ((kk + 12) + 1))) (.int .i64 (kk + 13)) (by kernel_rfl) (sayJ _ (by omega) (by omega)) ?_
    refine At.auto 1 (by kernel_rfl) ?_
    refine At.done rfl ?_
    refine AW.seq ?_
    refine AW.region (At.start ?_)
    refine At.auto 3 (by kernel_rfl) ?_
    refine At.idxRef (t := 29) (d := 123) (x := .tmp 120) (y := .tmp 121) (j := 0) (xs := ((o.set i (⟨kk, ⟨kk + 1, kk + 2, kk + 3, kk + 4, kk + 5, kk + 6, ((kk + 7) % 3) == 0, kk + 8, kk + 9, markT (kk + 10), ⟨kk + 11, kk + 12, e1.msg.cmd.node, e1.msg.cmd.size, e1.msg.cmd.digest⟩, e1.msg.entries⟩⟩ : Out)).map encOut)) (kd := .i64) (i := (i : Int)) (e := 76) (es := 17) (by kernel_rfl) (by kernel_rfl) (by kernel_rfl) (by kernel_rfl) (by kernel_rfl) (by omega) (by first | omega | (simp only [List.length_map, List.length_append, List.length_take, List.length_drop, List.length_replicate, List.length_set, List.length_cons, List.length_nil]; omega)) ?_
    refine At.auto 3 (by kernel_rfl) ?_
    refine At.stEl (t := 3) (i := 0) (e := 76) (es := 17) (j := i) (off := 13) (x := .tmp 126) (y := .tmp 122) (xs := ((o.set i (⟨kk, ⟨kk + 1, kk + 2, kk + 3, kk + 4, kk + 5, kk + 6, ((kk + 7) % 3) == 0, kk + 8, kk + 9, markT (kk + 10), ⟨kk + 11, kk + 12, e1.msg.cmd.node, e1.msg.cmd.size, e1.msg.cmd.digest⟩, e1.msg.entries⟩⟩ : Out)).map encOut)) (xs' := ((o.set i (⟨kk, ⟨kk + 1, kk + 2, kk + 3, kk + 4, kk + 5, kk + 6, ((kk + 7) % 3) == 0, kk + 8, kk + 9, markT (kk + 10), ⟨kk + 11, kk + 12, kk + 13, e1.msg.cmd.size, e1.msg.cmd.digest⟩, e1.msg.entries⟩⟩ : Out)).map encOut)) (ys := [.int .i64 (kk + 13)]) (v := .int .i64 (kk + 13)) (encOut (⟨kk, ⟨kk + 1, kk + 2, kk + 3, kk + 4, kk + 5, kk + 6, ((kk + 7) % 3) == 0, kk + 8, kk + 9, markT (kk + 10), ⟨kk + 11, kk + 12, e1.msg.cmd.node, e1.msg.cmd.size, e1.msg.cmd.digest⟩, e1.msg.entries⟩⟩ : Out)) (encOut (⟨kk, ⟨kk + 1, kk + 2, kk + 3, kk + 4, kk + 5, kk + 6, ((kk + 7) % 3) == 0, kk + 8, kk + 9, markT (kk + 10), ⟨kk + 11, kk + 12, kk + 13, e1.msg.cmd.size, e1.msg.cmd.digest⟩, e1.msg.entries⟩⟩ : Out)) (by kernel_rfl) (by kernel_rfl) (by kernel_rfl) (by kernel_rfl) (by kernel_rfl) (mapGet (setGet he1)) (by kernel_rfl) setSetV ?_
    refine At.done rfl ?_
    refine AW.seq ?_
    refine AW.region (At.start ?_)
    refine At.auto 2 (by kernel_rfl) ?_
    refine At.say 128 (.int .i64 (IntKind.i64.wrap ((kk + 13) + 1))) (.int .i64 (kk + 14)) (by kernel_rfl) (sayJ _ (by omega) (by omega)) ?_
    refine At.auto 1 (by kernel_rfl) ?_
    refine At.done rfl ?_
    refine AW.seq ?_
    refine AW.region (At.start ?_)
    refine At.auto 3 (by kernel_rfl) ?_
    refine At.idxRef (t := 29) (d := 132) (x := .tmp 129) (y := .tmp 130) (j := 0) (xs := ((o.set i (⟨kk, ⟨kk + 1, kk + 2, kk + 3, kk + 4, kk + 5, kk + 6, ((kk + 7) % 3) == 0, kk + 8, kk + 9, markT (kk + 10), ⟨kk + 11, kk + 12, kk + 13, e1.msg.cmd.size, e1.msg.cmd.digest⟩, e1.msg.entries⟩⟩ : Out)).map encOut)) (kd := .i64) (i := (i : Int)) (e := 76) (es := 17) (by kernel_rfl) (by kernel_rfl) (by kernel_rfl) (by kernel_rfl) (by kernel_rfl) (by omega) (by first | omega | (simp only [List.length_map, List.length_append, List.length_take, List.length_drop, List.length_replicate, List.length_set, List.length_cons, List.length_nil]; omega)) ?_
    refine At.auto 3 (by kernel_rfl) ?_
    refine At.stEl (t := 3) (i := 0) (e := 76) (es := 17) (j := i) (off := 14) (x := .tmp 135) (y := .tmp 131) (xs := ((o.set i (⟨kk, ⟨kk + 1, kk + 2, kk + 3, kk + 4, kk + 5, kk + 6, ((kk + 7) % 3) == 0, kk + 8, kk + 9, markT (kk + 10), ⟨kk + 11, kk + 12, kk + 13, e1.msg.cmd.size, e1.msg.cmd.digest⟩, e1.msg.entries⟩⟩ : Out)).map encOut)) (xs' := ((o.set i (⟨kk, ⟨kk + 1, kk + 2, kk + 3, kk + 4, kk + 5, kk + 6, ((kk + 7) % 3) == 0, kk + 8, kk + 9, markT (kk + 10), ⟨kk + 11, kk + 12, kk + 13, kk + 14, e1.msg.cmd.digest⟩, e1.msg.entries⟩⟩ : Out)).map encOut)) (ys := [.int .i64 (kk + 14)]) (v := .int .i64 (kk + 14)) (encOut (⟨kk, ⟨kk + 1, kk + 2, kk + 3, kk + 4, kk + 5, kk + 6, ((kk + 7) % 3) == 0, kk + 8, kk + 9, markT (kk + 10), ⟨kk + 11, kk + 12, kk + 13, e1.msg.cmd.size, e1.msg.cmd.digest⟩, e1.msg.entries⟩⟩ : Out)) (encOut (⟨kk, ⟨kk + 1, kk + 2, kk + 3, kk + 4, kk + 5, kk + 6, ((kk + 7) % 3) == 0, kk + 8, kk + 9, markT (kk + 10), ⟨kk + 11, kk + 12, kk + 13, kk + 14, e1.msg.cmd.digest⟩, e1.msg.entries⟩⟩ : Out)) (by kernel_rfl) (by kernel_rfl) (by kernel_rfl) (by kernel_rfl) (by kernel_rfl) (mapGet (setGet he1)) (by kernel_rfl) setSetV ?_
    refine At.done rfl ?_
    refine AW.seq ?_
    refine AW.region (At.start ?_)
    refine At.auto 2 (by kernel_rfl) ?_
    refine At.say 137 (.int .i64 (IntKind.i64.wrap ((kk + 14) + 1))) (.int .i64 (kk + 15)) (by kernel_rfl) (sayJ _ (by omega) (by omega)) ?_
    refine At.auto 1 (by kernel_rfl) ?_
    refine At.done rfl ?_
    refine AW.seq ?_
    refine AW.region (At.start ?_)
    refine At.auto 3 (by kernel_rfl) ?_
    refine At.call (laws_markText_spec  (kk + 15) (by first | omega | (dsimp only; omega) | (simp only [List.length_map, List.length_append, List.length_take, List.length_drop, List.length_replicate, List.length_set, List.length_cons, List.length_nil]; omega))) Try.call48 true [] [] [] (by kernel_rfl) (by kernel_rfl) (by kernel_rfl) (by kernel_rfl) (by kernel_rfl) trivial ?_
    refine At.idxRef (t := 29) (d := 142) (x := .tmp 138) (y := .tmp 139) (j := 0) (xs := ((o.set i (⟨kk, ⟨kk + 1, kk + 2, kk + 3, kk + 4, kk + 5, kk + 6, ((kk + 7) % 3) == 0, kk + 8, kk + 9, markT (kk + 10), ⟨kk + 11, kk + 12, kk + 13, kk + 14, e1.msg.cmd.digest⟩, e1.msg.entries⟩⟩ : Out)).map encOut)) (kd := .i64) (i := (i : Int)) (e := 76) (es := 17) (by kernel_rfl) (by kernel_rfl) (by kernel_rfl) (by kernel_rfl) (by kernel_rfl) (by omega) (by first | omega | (simp only [List.length_map, List.length_append, List.length_take, List.length_drop, List.length_replicate, List.length_set, List.length_cons, List.length_nil]; omega)) ?_
    refine At.auto 3 (by kernel_rfl) ?_
    refine At.stEl (t := 9) (i := 0) (e := 76) (es := 17) (j := i) (off := 15) (x := .tmp 145) (y := .tmp 141) (xs := ((o.set i (⟨kk, ⟨kk + 1, kk + 2, kk + 3, kk + 4, kk + 5, kk + 6, ((kk + 7) % 3) == 0, kk + 8, kk + 9, markT (kk + 10), ⟨kk + 11, kk + 12, kk + 13, kk + 14, e1.msg.cmd.digest⟩, e1.msg.entries⟩⟩ : Out)).map encOut)) (xs' := ((o.set i (⟨kk, ⟨kk + 1, kk + 2, kk + 3, kk + 4, kk + 5, kk + 6, ((kk + 7) % 3) == 0, kk + 8, kk + 9, markT (kk + 10), ⟨kk + 11, kk + 12, kk + 13, kk + 14, markT (kk + 15)⟩, e1.msg.entries⟩⟩ : Out)).map encOut)) (ys := [.str (markT (kk + 15))]) (v := .str (markT (kk + 15))) (encOut (⟨kk, ⟨kk + 1, kk + 2, kk + 3, kk + 4, kk + 5, kk + 6, ((kk + 7) % 3) == 0, kk + 8, kk + 9, markT (kk + 10), ⟨kk + 11, kk + 12, kk + 13, kk + 14, e1.msg.cmd.digest⟩, e1.msg.entries⟩⟩ : Out)) (encOut (⟨kk, ⟨kk + 1, kk + 2, kk + 3, kk + 4, kk + 5, kk + 6, ((kk + 7) % 3) == 0, kk + 8, kk + 9, markT (kk + 10), ⟨kk + 11, kk + 12, kk + 13, kk + 14, markT (kk + 15)⟩, e1.msg.entries⟩⟩ : Out)) (by kernel_rfl) (by kernel_rfl) (by kernel_rfl) (by kernel_rfl) (by kernel_rfl) (mapGet (setGet he1)) (by kernel_rfl) setSetV ?_
    refine At.done rfl ?_
    refine AW.seq ?_
    refine AW.region (At.start ?_)
    refine At.auto 2 (by kernel_rfl) ?_
    refine At.say 147 (.int .i64 (IntKind.i64.wrap ((kk + 15) + 1))) (.int .i64 (kk + 16)) (by kernel_rfl) (sayJ _ (by omega) (by omega)) ?_
    refine At.auto 1 (by kernel_rfl) ?_
    refine At.done rfl ?_
    refine AW.region (At.start ?_)
    refine At.auto 2 (by kernel_rfl) ?_
    refine At.idxRef (t := 29) (d := 150) (x := .tmp 148) (y := .tmp 149) (j := 0) (xs := ((o.set i (⟨kk, ⟨kk + 1, kk + 2, kk + 3, kk + 4, kk + 5, kk + 6, ((kk + 7) % 3) == 0, kk + 8, kk + 9, markT (kk + 10), ⟨kk + 11, kk + 12, kk + 13, kk + 14, markT (kk + 15)⟩, e1.msg.entries⟩⟩ : Out)).map encOut)) (kd := .i64) (i := (i : Int)) (e := 76) (es := 17) (by kernel_rfl) (by kernel_rfl) (by kernel_rfl) (by kernel_rfl) (by kernel_rfl) (by omega) (by first | omega | (simp only [List.length_map, List.length_append, List.length_take, List.length_drop, List.length_replicate, List.length_set, List.length_cons, List.length_nil]; omega)) ?_
    refine At.auto 2 (by kernel_rfl) ?_
    refine At.out (t := 31) (d := 153) (x := .tmp 152) (i := 0) (e := 76) (es := 17) (xs := ((o.set i (⟨kk, ⟨kk + 1, kk + 2, kk + 3, kk + 4, kk + 5, kk + 6, ((kk + 7) % 3) == 0, kk + 8, kk + 9, markT (kk + 10), ⟨kk + 11, kk + 12, kk + 13, kk + 14, markT (kk + 15)⟩, e1.msg.entries⟩⟩ : Out)).map encOut)) (xs' := (((o.set i (⟨kk, ⟨kk + 1, kk + 2, kk + 3, kk + 4, kk + 5, kk + 6, ((kk + 7) % 3) == 0, kk + 8, kk + 9, markT (kk + 10), ⟨kk + 11, kk + 12, kk + 13, kk + 14, markT (kk + 15)⟩, e1.msg.entries⟩⟩ : Out)).map encOut)).set i (.agg [.int .i64 kk, .int .i64 (kk + 1), .int .i64 (kk + 2), .int .i64 (kk + 3), .int .i64 (kk + 4), .int .i64 (kk + 5), .int .i64 (kk + 6), .bool (((kk + 7) % 3) == 0), .int .i64 (kk + 8), .int .i64 (kk + 9), .str (markT (kk + 10)), .int .i64 (kk + 11), .int .i64 (kk + 12), .int .i64 (kk + 13), .int .i64 (kk + 14), .str (markT (kk + 15)), .un])) (j := i) (off := 16) (ys := (e1.msg.entries.map encEnt)) (e' := 88) (es' := 6) 253 (encOut (⟨kk, ⟨kk + 1, kk + 2, kk + 3, kk + 4, kk + 5, kk + 6, ((kk + 7) % 3) == 0, kk + 8, kk + 9, markT (kk + 10), ⟨kk + 11, kk + 12, kk + 13, kk + 14, markT (kk + 15)⟩, e1.msg.entries⟩⟩ : Out)) (.agg [.int .i64 kk, .int .i64 (kk + 1), .int .i64 (kk + 2), .int .i64 (kk + 3), .int .i64 (kk + 4), .int .i64 (kk + 5), .int .i64 (kk + 6), .bool (((kk + 7) % 3) == 0), .int .i64 (kk + 8), .int .i64 (kk + 9), .str (markT (kk + 10)), .int .i64 (kk + 11), .int .i64 (kk + 12), .int .i64 (kk + 13), .int .i64 (kk + 14), .str (markT (kk + 15)), .un]) (by kernel_rfl) (by kernel_rfl) (by kernel_rfl) (by kernel_rfl) (by kernel_rfl) (mapGet (setGet he1)) (by kernel_rfl) (by decide) rfl ?_
    refine At.auto 1 (by kernel_rfl) ?_
    refine At.call (laws_markEntryS_spec  e1.msg.entries (kk + 16) (by first | omega | (dsimp only; omega) | (simp only [List.length_map, List.length_append, List.length_take, List.length_drop, List.length_replicate, List.length_set, List.length_cons, List.length_nil]; omega)) (by first | omega | (dsimp only; omega) | (simp only [List.length_map, List.length_append, List.length_take, List.length_drop, List.length_replicate, List.length_set, List.length_cons, List.length_nil]; omega)) (by first | omega | (dsimp only; omega) | (simp only [List.length_map, List.length_append, List.length_take, List.length_drop, List.length_replicate, List.length_set, List.length_cons, List.length_nil]; omega))) Try.call49 true [(253, 0)] [] [] (by kernel_rfl) (by kernel_rfl) (by kernel_rfl) (by kernel_rfl) (by kernel_rfl) trivial ?_
    refine At.auto 1 (by kernel_rfl) ?_
    refine At.done rfl ?_
    refine AW.weak (Sub.close (i := 0) (e := 76) (es := 17) (j := i) (off := 16) (k := 253) (e' := 88) (es' := 6) (xs := (((o.set i (⟨kk, ⟨kk + 1, kk + 2, kk + 3, kk + 4, kk + 5, kk + 6, ((kk + 7) % 3) == 0, kk + 8, kk + 9, markT (kk + 10), ⟨kk + 11, kk + 12, kk + 13, kk + 14, markT (kk + 15)⟩, e1.msg.entries⟩⟩ : Out)).map encOut)).set i (.agg [.int .i64 kk, .int .i64 (kk + 1), .int .i64 (kk + 2), .int .i64 (kk + 3), .int .i64 (kk + 4), .int .i64 (kk + 5), .int .i64 (kk + 6), .bool (((kk + 7) % 3) == 0), .int .i64 (kk + 8), .int .i64 (kk + 9), .str (markT (kk + 10)), .int .i64 (kk + 11), .int .i64 (kk + 12), .int .i64 (kk + 13), .int .i64 (kk + 14), .str (markT (kk + 15)), .un])) (xs' := ((o.set i (⟨kk, ⟨kk + 1, kk + 2, kk + 3, kk + 4, kk + 5, kk + 6, ((kk + 7) % 3) == 0, kk + 8, kk + 9, markT (kk + 10), ⟨kk + 11, kk + 12, kk + 13, kk + 14, markT (kk + 15)⟩, marks markE nxE e1.msg.entries (kk + 16)⟩⟩ : Out)).map encOut)) (zs := ((marks markE nxE e1.msg.entries (kk + 16)).map encEnt)) (y := .agg [.int .i64 kk, .int .i64 (kk + 1), .int .i64 (kk + 2), .int .i64 (kk + 3), .int .i64 (kk + 4), .int .i64 (kk + 5), .int .i64 (kk + 6), .bool (((kk + 7) % 3) == 0), .int .i64 (kk + 8), .int .i64 (kk + 9), .str (markT (kk + 10)), .int .i64 (kk + 11), .int .i64 (kk + 12), .int .i64 (kk + 13), .int .i64 (kk + 14), .str (markT (kk + 15)), .un]) (y' := encOut (⟨kk, ⟨kk + 1, kk + 2, kk + 3, kk + 4, kk + 5, kk + 6, ((kk + 7) % 3) == 0, kk + 8, kk + 9, markT (kk + 10), ⟨kk + 11, kk + 12, kk + 13, kk + 14, markT (kk + 15)⟩, marks markE nxE e1.msg.entries (kk + 16)⟩⟩ : Out)) (by kernel_rfl) flatEnts (by decide) (setGet (mapGet (setGet he1))) (by kernel_rfl) (by rw [List.set_set, ← setSetV])) ?_
    refine AW.region (At.start ?_)
    refine At.auto 2 (by kernel_rfl) ?_
    refine At.say 11 (.int .i64 (IntKind.i64.wrap ((i : Int) + 1))) (.int .i64 ((i : Int) + 1)) (by kernel_rfl) (sayI _ (by omega)) ?_
    refine At.auto 1 (by kernel_rfl) ?_
    refine At.done rfl ?_
    exact ⟨(i + 1, (ends nxE e1.msg.entries (kk + 16)), (o.set i (⟨kk, ⟨kk + 1, kk + 2, kk + 3, kk + 4, kk + 5, kk + 6, ((kk + 7) % 3) == 0, kk + 8, kk + 9, markT (kk + 10), ⟨kk + 11, kk + 12, kk + 13, kk + 14, markT (kk + 15)⟩, marks markE nxE e1.msg.entries (kk + 16)⟩⟩ : Out))), ⟨by first | omega | (have hge := hR.le nxO_ge he1; have := nxO_ge e1 kk; omega), hR.step he1 rfl rfl⟩, (by simp only; omega), Sub.of [(0, 0)] [true, true, false, false, false, true] _ _ (by kernel_rfl) (by kernel_rfl) (by kernel_rfl)⟩
  · have h1 : ¬ ((i : Int) < (o.length : Int)) := by simpa using hb
    clear hb
    refine AW.exit ?_
    refine AW.seq ?_
    refine AW.region (At.start ?_)
    refine At.auto 2 (by kernel_rfl) ?_
    refine At.done rfl ?_
    refine AW.ret ?_
    refine ⟨_, Sub.refl _ _, ?_⟩
    refine KF.conv (fun w => .int .i64 w) (fun w => [.arr 76 17 ((marks markO nxO a k).map encOut)]) (show (kk) = (ends nxO a k) from (hR.done (by omega)).2) ?_
    refine KF.conv (fun w => .int .i64 kk) (fun w => [.arr 76 17 (w.map encOut)]) (show (o) = (marks markO nxO a k) from (hR.done (by omega)).1) ?_
    exact KF.mk (.inr rfl) [(0, 0)] [.int .i64 kk] (by kernel_rfl) (by kernel_rfl) (by kernel_rfl) (by kernel_rfl) (by kernel_rfl)
set_option maxRecDepth 100000 in
set_option maxHeartbeats 4000000 in
theorem laws_heldEntryS_spec  (a : List Ent) (k : Int) (ha : a.length ≤ 1048576) (hk : 0 ≤ k ∧ k + 20 * a.length ≤ 4611686018427387904) : FnSpec Try.prog 50 [.sl false 6 (a.map encEnt), .int .i64 k] [] (.int .i64 (held okE nxE a k)) [] := by
  refine FnSpec.of 73 Try.func50 rfl Try.ntmps50 (by simp) (AW.weakK ?_)
  refine AW.seq ?_
  refine AW.region (At.start ?_)
  refine At.auto 1 (by kernel_rfl) ?_
  refine At.done rfl ?_
  refine AW.seq ?_
  refine AW.seq ?_
  refine AW.region (At.start ?_)
  refine At.auto 1 (by kernel_rfl) ?_
  refine At.done rfl ?_
  refine AW.block ?_
  refine AW.loopW (fun (x : Nat × Int) => match x with | (i, kk) => Go.Sy.mk [.sl false 6 (a.map encEnt), .int .i64 kk, .un, .un, .un, .int .i64 (i : Int)] []) (fun (x : Nat × Int) => match x with | (i, kk) => i ≤ a.length ∧ 0 ≤ kk ∧ kk + 20 * ((a.length : Int) - i) ≤ 4611686018427387904 ∧ held okE nxE a k = held okE nxE (a.drop i) kk) (fun (x : Nat × Int) => match x with | (i, kk) => a.length - i) (0, k) ⟨by omega, by omega, by omega, by rw [List.drop_zero]⟩ (Sub.of [] [true, true, false, false, false, true] _ _ (by kernel_rfl) (by kernel_rfl) (by kernel_rfl)) ?_
  rintro ⟨i, kk⟩ ⟨hi, hkk, hkb, hR⟩
  refine AW.seq ?_
  refine AW.seq ?_
  refine AW.region (At.start ?_)
  refine At.auto 3 (by kernel_rfl) ?_
  refine At.say 8 (.int .i64 (((a.map encEnt).length : Nat) : Int)) (.int .i64 (a.length : Int)) (by kernel_rfl) (sayLen _ _) ?_
  refine At.auto 1 (by kernel_rfl) ?_
  refine At.done rfl ?_
  refine AW.cond (decide ((i : Int) < (a.length : Int))) (by kernel_rfl) (fun hb => ?_) (fun hb => ?_)
  · have h1 : (i : Int) < (a.length : Int) := by simpa using hb
    clear hb
    refine AW.skip ?_
    refine AW.seq ?_
    refine AW.block ?_
    refine AW.seq ?_
    refine AW.seq ?_
    refine AW.region (At.start ?_)
    refine At.auto 2 (by kernel_rfl) ?_
    refine At.idxSl (t := 31) (d := 14) (x := .tmp 12) (y := .tmp 13) (p := false) (es := 6) (xs := (a.map encEnt)) (kd := .i64) (i := (i : Int)) (e := 88) (by kernel_rfl) (by kernel_rfl) (by kernel_rfl) (by kernel_rfl) (by omega) (by first | omega | (simp only [List.length_map, List.length_append, List.length_take, List.length_drop, List.length_replicate, List.length_set, List.length_cons, List.length_nil]; omega)) ?_
    refine At.auto 1 (by kernel_rfl) ?_
    refine Exists.elim (show ∃ e, a[i]? = some e from ⟨_, List.getElem?_eq_getElem (by first | omega | (simp only [List.length_map, List.length_append, List.length_take, List.length_drop, List.length_replicate, List.length_set, List.length_cons, List.length_nil]; omega))⟩) fun e1 he1 => ?_
    refine At.ldVp (t := 3) (d := 16) (x := .tmp 15) (p := false) (es := 6) (xs := (a.map encEnt)) (j := i) (off := 0) (b := false) (m := 1) (encEnt e1) (.int .i64 e1.term) (by kernel_rfl) (by kernel_rfl) (by kernel_rfl) (by kernel_rfl) (mapGet he1) (by kernel_rfl) ?_
    refine At.auto 2 (by kernel_rfl) ?_
    refine At.done rfl ?_
    refine AW.cond (e1.term != kk) (by kernel_rfl) (fun hb => ?_) (fun hb => ?_)
    · have h2 : ¬ (e1.term = kk) := by simpa using hb
      clear hb
      refine AW.seq ?_
      refine AW.region (At.start ?_)
      refine At.auto 1 (by kernel_rfl) ?_
      refine At.done rfl ?_
      refine AW.ret ?_
      refine ⟨_, Sub.refl _ _, ?_⟩
      refine KF.conv (fun w => .int .i64 w) (fun w => []) (show (-1) = (held okE nxE a k) from by first | (rw [hR, dropCons he1, held, if_neg (by simp [okE, h1, h2])]; done) | (rw [hR, List.drop_of_length_le (by omega)]; rfl)) ?_
      exact KF.mk (.inr rfl) [] [.int .i64 (-1)] (by kernel_rfl) (by kernel_rfl) (by kernel_rfl) (by kernel_rfl) (by kernel_rfl)
    · have h2 : e1.term = kk := by simpa using hb
      clear hb
      refine AW.skip ?_
      refine AW.seq ?_
      refine AW.region (At.start ?_)
      refine At.auto 2 (by kernel_rfl) ?_
      refine At.say 20 (.int .i64 (IntKind.i64.wrap (kk + 1))) (.int .i64 (kk + 1)) (by kernel_rfl) (sayI _ (by omega)) ?_
      refine At.auto 1 (by kernel_rfl) ?_
      refine At.done rfl ?_
      refine AW.seq ?_
      refine AW.seq ?_
      refine AW.region (At.start ?_)
      refine At.auto 2 (by kernel_rfl) ?_
      refine At.idxSl (t := 31) (d := 23) (x := .tmp 21) (y := .tmp 22) (p := false) (es := 6) (xs := (a.map encEnt)) (kd := .i64) (i := (i : Int)) (e := 88) (by kernel_rfl) (by kernel_rfl) (by kernel_rfl) (by kernel_rfl) (by omega) (by first | omega | (simp only [List.length_map, List.length_append, List.length_take, List.length_drop, List.length_replicate, List.length_set, List.length_cons, List.length_nil]; omega)) ?_
      refine At.auto 2 (by kernel_rfl) ?_
      refine At.ldVp (t := 3) (d := 26) (x := .tmp 25) (p := false) (es := 6) (xs := (a.map encEnt)) (j := i) (off := 1) (b := false) (m := 1) (encEnt e1) (.int .i64 e1.cmd.kind) (by kernel_rfl) (by kernel_rfl) (by kernel_rfl) (by kernel_rfl) (mapGet he1) (by kernel_rfl) ?_
      refine At.auto 2 (by kernel_rfl) ?_
      refine At.done rfl ?_
      refine AW.cond (e1.cmd.kind != (kk + 1)) (by kernel_rfl) (fun hb => ?_) (fun hb => ?_)
      · have h3 : ¬ (e1.cmd.kind = kk + 1) := by simpa using hb
        clear hb
        refine AW.seq ?_
        refine AW.region (At.start ?_)
        refine At.auto 1 (by kernel_rfl) ?_
        refine At.done rfl ?_
        refine AW.ret ?_
        refine ⟨_, Sub.refl _ _, ?_⟩
        refine KF.conv (fun w => .int .i64 w) (fun w => []) (show (-1) = (held okE nxE a k) from by first | (rw [hR, dropCons he1, held, if_neg (by simp [okE, h1, h2, h3])]; done) | (rw [hR, List.drop_of_length_le (by omega)]; rfl)) ?_
        exact KF.mk (.inr rfl) [] [.int .i64 (-1)] (by kernel_rfl) (by kernel_rfl) (by kernel_rfl) (by kernel_rfl) (by kernel_rfl)
      · have h3 : e1.cmd.kind = kk + 1 := by simpa using hb
        clear hb
        refine AW.skip ?_
        refine AW.seq ?_
        refine AW.region (At.start ?_)
        refine At.auto 2 (by kernel_rfl) ?_
        refine At.say 30 (.int .i64 (IntKind.i64.wrap ((kk + 1) + 1))) (.int .i64 (kk + 2)) (by kernel_rfl) (sayJ _ (by omega) (by omega)) ?_
        refine At.auto 1 (by kernel_rfl) ?_
        refine At.done rfl ?_
        refine AW.seq ?_
        refine AW.seq ?_
        refine AW.region (At.start ?_)
        refine At.auto 2 (by kernel_rfl) ?_
        refine At.idxSl (t := 31) (d := 33) (x := .tmp 31) (y := .tmp 32) (p := false) (es := 6) (xs := (a.map encEnt)) (kd := .i64) (i := (i : Int)) (e := 88) (by kernel_rfl) (by kernel_rfl) (by kernel_rfl) (by kernel_rfl) (by omega) (by first | omega | (simp only [List.length_map, List.length_append, List.length_take, List.length_drop, List.length_replicate, List.length_set, List.length_cons, List.length_nil]; omega)) ?_
        refine At.auto 2 (by kernel_rfl) ?_
        refine At.ldVp (t := 3) (d := 36) (x := .tmp 35) (p := false) (es := 6) (xs := (a.map encEnt)) (j := i) (off := 2) (b := false) (m := 1) (encEnt e1) (.int .i64 e1.cmd.release) (by kernel_rfl) (by kernel_rfl) (by kernel_rfl) (by kernel_rfl) (mapGet he1) (by kernel_rfl) ?_
        refine At.auto 2 (by kernel_rfl) ?_
        refine At.done rfl ?_
        refine AW.cond (e1.cmd.release != (kk + 2)) (by kernel_rfl) (fun hb => ?_) (fun hb => ?_)
        · have h4 : ¬ (e1.cmd.release = kk + 2) := by simpa using hb
          clear hb
          refine AW.seq ?_
          refine AW.region (At.start ?_)
          refine At.auto 1 (by kernel_rfl) ?_
          refine At.done rfl ?_
          refine AW.ret ?_
          refine ⟨_, Sub.refl _ _, ?_⟩
          refine KF.conv (fun w => .int .i64 w) (fun w => []) (show (-1) = (held okE nxE a k) from by first | (rw [hR, dropCons he1, held, if_neg (by simp [okE, h1, h2, h3, h4])]; done) | (rw [hR, List.drop_of_length_le (by omega)]; rfl)) ?_
          exact KF.mk (.inr rfl) [] [.int .i64 (-1)] (by kernel_rfl) (by kernel_rfl) (by kernel_rfl) (by kernel_rfl) (by kernel_rfl)
        · have h4 : e1.cmd.release = kk + 2 := by simpa using hb
          clear hb
          refine AW.skip ?_
          refine AW.seq ?_
          refine AW.region (At.start ?_)
          refine At.auto 2 (by kernel_rfl) ?_
          refine At.say 40 (.int .i64 (IntKind.i64.wrap ((kk + 2) + 1))) (.int .i64 (kk + 3)) (by kernel_rfl) (sayJ _ (by omega) (by omega)) ?_
          refine At.auto 1 (by kernel_rfl) ?_
          refine At.done rfl ?_
          refine AW.seq ?_
          refine AW.seq ?_
          refine AW.region (At.start ?_)
          refine At.auto 2 (by kernel_rfl) ?_
          refine At.idxSl (t := 31) (d := 43) (x := .tmp 41) (y := .tmp 42) (p := false) (es := 6) (xs := (a.map encEnt)) (kd := .i64) (i := (i : Int)) (e := 88) (by kernel_rfl) (by kernel_rfl) (by kernel_rfl) (by kernel_rfl) (by omega) (by first | omega | (simp only [List.length_map, List.length_append, List.length_take, List.length_drop, List.length_replicate, List.length_set, List.length_cons, List.length_nil]; omega)) ?_
          refine At.auto 2 (by kernel_rfl) ?_
          refine At.ldVp (t := 3) (d := 46) (x := .tmp 45) (p := false) (es := 6) (xs := (a.map encEnt)) (j := i) (off := 3) (b := false) (m := 1) (encEnt e1) (.int .i64 e1.cmd.node) (by kernel_rfl) (by kernel_rfl) (by kernel_rfl) (by kernel_rfl) (mapGet he1) (by kernel_rfl) ?_
          refine At.auto 2 (by kernel_rfl) ?_
          refine At.done rfl ?_
          refine AW.cond (e1.cmd.node != (kk + 3)) (by kernel_rfl) (fun hb => ?_) (fun hb => ?_)
          · have h5 : ¬ (e1.cmd.node = kk + 3) := by simpa using hb
            clear hb
            refine AW.seq ?_
            refine AW.region (At.start ?_)
            refine At.auto 1 (by kernel_rfl) ?_
            refine At.done rfl ?_
            refine AW.ret ?_
            refine ⟨_, Sub.refl _ _, ?_⟩
            refine KF.conv (fun w => .int .i64 w) (fun w => []) (show (-1) = (held okE nxE a k) from by first | (rw [hR, dropCons he1, held, if_neg (by simp [okE, h1, h2, h3, h4, h5])]; done) | (rw [hR, List.drop_of_length_le (by omega)]; rfl)) ?_
            exact KF.mk (.inr rfl) [] [.int .i64 (-1)] (by kernel_rfl) (by kernel_rfl) (by kernel_rfl) (by kernel_rfl) (by kernel_rfl)
          · have h5 : e1.cmd.node = kk + 3 := by simpa using hb
            clear hb
            refine AW.skip ?_
            refine AW.seq ?_
            refine AW.region (At.start ?_)
            refine At.auto 2 (by kernel_rfl) ?_
            refine At.say 50 (.int .i64 (IntKind.i64.wrap ((kk + 3) + 1))) (.int .i64 (kk + 4)) (by kernel_rfl) (sayJ _ (by omega) (by omega)) ?_
            refine At.auto 1 (by kernel_rfl) ?_
            refine At.done rfl ?_
            refine AW.seq ?_
            refine AW.seq ?_
            refine AW.region (At.start ?_)
            refine At.auto 2 (by kernel_rfl) ?_
            refine At.idxSl (t := 31) (d := 53) (x := .tmp 51) (y := .tmp 52) (p := false) (es := 6) (xs := (a.map encEnt)) (kd := .i64) (i := (i : Int)) (e := 88) (by kernel_rfl) (by kernel_rfl) (by kernel_rfl) (by kernel_rfl) (by omega) (by first | omega | (simp only [List.length_map, List.length_append, List.length_take, List.length_drop, List.length_replicate, List.length_set, List.length_cons, List.length_nil]; omega)) ?_
            refine At.auto 2 (by kernel_rfl) ?_
            refine At.ldVp (t := 3) (d := 56) (x := .tmp 55) (p := false) (es := 6) (xs := (a.map encEnt)) (j := i) (off := 4) (b := false) (m := 1) (encEnt e1) (.int .i64 e1.cmd.size) (by kernel_rfl) (by kernel_rfl) (by kernel_rfl) (by kernel_rfl) (mapGet he1) (by kernel_rfl) ?_
            refine At.auto 2 (by kernel_rfl) ?_
            refine At.done rfl ?_
            refine AW.cond (e1.cmd.size != (kk + 4)) (by kernel_rfl) (fun hb => ?_) (fun hb => ?_)
            · have h6 : ¬ (e1.cmd.size = kk + 4) := by simpa using hb
              clear hb
              refine AW.seq ?_
              refine AW.region (At.start ?_)
              refine At.auto 1 (by kernel_rfl) ?_
              refine At.done rfl ?_
              refine AW.ret ?_
              refine ⟨_, Sub.refl _ _, ?_⟩
              refine KF.conv (fun w => .int .i64 w) (fun w => []) (show (-1) = (held okE nxE a k) from by first | (rw [hR, dropCons he1, held, if_neg (by simp [okE, h1, h2, h3, h4, h5, h6])]; done) | (rw [hR, List.drop_of_length_le (by omega)]; rfl)) ?_
              exact KF.mk (.inr rfl) [] [.int .i64 (-1)] (by kernel_rfl) (by kernel_rfl) (by kernel_rfl) (by kernel_rfl) (by kernel_rfl)
            · have h6 : e1.cmd.size = kk + 4 := by simpa using hb
              clear hb
              refine AW.skip ?_
              refine AW.seq ?_
              refine AW.region (At.start ?_)
              refine At.auto 2 (by kernel_rfl) ?_
              refine At.say 60 (.int .i64 (IntKind.i64.wrap ((kk + 4) + 1))) (.int .i64 (kk + 5)) (by kernel_rfl) (sayJ _ (by omega) (by omega)) ?_
              refine At.auto 1 (by kernel_rfl) ?_
              refine At.done rfl ?_
              refine AW.seq ?_
              refine AW.seq ?_
              refine AW.regionD Try_mix (At.start ?_)
              refine At.auto 2 (by kernel_rfl) ?_
              refine At.idxSl (t := 31) (d := 63) (x := .tmp 61) (y := .tmp 62) (p := false) (es := 6) (xs := (a.map encEnt)) (kd := .i64) (i := (i : Int)) (e := 88) (by kernel_rfl) (by kernel_rfl) (by kernel_rfl) (by kernel_rfl) (by omega) (by first | omega | (simp only [List.length_map, List.length_append, List.length_take, List.length_drop, List.length_replicate, List.length_set, List.length_cons, List.length_nil]; omega)) ?_
              refine At.auto 2 (by kernel_rfl) ?_
              refine At.ldVp (t := 9) (d := 66) (x := .tmp 65) (p := false) (es := 6) (xs := (a.map encEnt)) (j := i) (off := 5) (b := false) (m := 1) (encEnt e1) (.str e1.cmd.digest) (by kernel_rfl) (by kernel_rfl) (by kernel_rfl) (by kernel_rfl) (mapGet he1) (by kernel_rfl) ?_
              refine At.auto 1 (by kernel_rfl) ?_
              refine At.call (laws_markText_spec  (kk + 5) (by first | omega | (dsimp only; omega) | (simp only [List.length_map, List.length_append, List.length_take, List.length_drop, List.length_replicate, List.length_set, List.length_cons, List.length_nil]; omega))) Try.call48 true [] [] [] (by kernel_rfl) (by kernel_rfl) (by kernel_rfl) (by kernel_rfl) (by kernel_rfl) trivial ?_
              refine At.auto 1 (by kernel_rfl) ?_
              refine At.done rfl ⟨by kernel_rfl, ?_⟩
              refine AW.cond (!(e1.cmd.digest.toList == (markT (kk + 5)).toList)) (by kernel_rfl) (fun hb => ?_) (fun hb => ?_)
              · have h7 : ¬ (e1.cmd.digest.toList = (markT (kk + 5)).toList) := by simpa using hb
                clear hb
                refine AW.seq ?_
                refine AW.region (At.start ?_)
                refine At.auto 1 (by kernel_rfl) ?_
                refine At.done rfl ?_
                refine AW.ret ?_
                refine ⟨_, Sub.refl _ _, ?_⟩
                refine KF.conv (fun w => .int .i64 w) (fun w => []) (show (-1) = (held okE nxE a k) from by first | (rw [hR, dropCons he1, held, if_neg (by simp [okE, h1, h2, h3, h4, h5, h6, h7])]; done) | (rw [hR, List.drop_of_length_le (by omega)]; rfl)) ?_
                exact KF.mk (.inr rfl) [] [.int .i64 (-1)] (by kernel_rfl) (by kernel_rfl) (by kernel_rfl) (by kernel_rfl) (by kernel_rfl)
              · have h7 : e1.cmd.digest.toList = (markT (kk + 5)).toList := by simpa using hb
                clear hb
                refine AW.skip ?_
                refine AW.region (At.start ?_)
                refine At.auto 2 (by kernel_rfl) ?_
                refine At.say 71 (.int .i64 (IntKind.i64.wrap ((kk + 5) + 1))) (.int .i64 (kk + 6)) (by kernel_rfl) (sayJ _ (by omega) (by omega)) ?_
                refine At.auto 1 (by kernel_rfl) ?_
                refine At.done rfl ?_
                refine AW.region (At.start ?_)
                refine At.auto 2 (by kernel_rfl) ?_
                refine At.say 11 (.int .i64 (IntKind.i64.wrap ((i : Int) + 1))) (.int .i64 ((i : Int) + 1)) (by kernel_rfl) (sayI _ (by omega)) ?_
                refine At.auto 1 (by kernel_rfl) ?_
                refine At.done rfl ?_
                exact ⟨(i + 1, (kk + 6)), ⟨by omega, by omega, by omega, by rw [hR, dropCons he1, held, if_pos (by simp [okE, h1, h2, h3, h4, h5, h6, h7])]; rfl⟩, (by simp only; omega), Sub.of [] [true, true, false, false, false, true] _ _ (by kernel_rfl) (by kernel_rfl) (by kernel_rfl)⟩
  · have h1 : ¬ ((i : Int) < (a.length : Int)) := by simpa using hb
    clear hb
    refine AW.exit ?_
    refine AW.seq ?_
    refine AW.region (At.start ?_)
    refine At.auto 2 (by kernel_rfl) ?_
    refine At.done rfl ?_
    refine AW.ret ?_
    refine ⟨_, Sub.refl _ _, ?_⟩
    refine KF.conv (fun w => .int .i64 w) (fun w => []) (show (kk) = (held okE nxE a k) from by first | (rw [hR, dropCons he1, held, if_neg (by simp [okE, h1])]; done) | (rw [hR, List.drop_of_length_le (by omega)]; rfl)) ?_
    exact KF.mk (.inr rfl) [] [.int .i64 kk] (by kernel_rfl) (by kernel_rfl) (by kernel_rfl) (by kernel_rfl) (by kernel_rfl)
set_option maxRecDepth 100000 in
set_option maxHeartbeats 4000000 in
theorem laws_heldHard_spec  (a : Hard) (k : Int) (ha : a.log.length ≤ 1048576) (hk : 0 ≤ k ∧ k ≤ 4611686018000000000) : FnSpec Try.prog 61 [.agg [.int .i64 a.term, .int .i64 a.vote, .sl false 6 (a.log.map encEnt)], .int .i64 k] [] (.int .i64 (held okE nxE a.log k)) [] := by
  refine FnSpec.of 12 Try.func61 rfl Try.ntmps61 (by simp) (AW.weakK ?_)
  refine AW.seq ?_
  refine AW.region (At.start ?_)
  refine At.auto 2 (by kernel_rfl) ?_
  refine At.done rfl ?_
  refine AW.seq ?_
  refine AW.region (At.start ?_)
  refine At.auto 3 (by kernel_rfl) ?_
  refine At.call (laws_heldEntryS_spec  a.log k (by first | omega | (dsimp only; omega) | (simp only [List.length_map, List.length_append, List.length_take, List.length_drop, List.length_replicate, List.length_set, List.length_cons, List.length_nil]; omega)) (by first | omega | (dsimp only; omega) | (simp only [List.length_map, List.length_append, List.length_take, List.length_drop, List.length_replicate, List.length_set, List.length_cons, List.length_nil]; omega))) Try.call50 true [] [] [] (by kernel_rfl) (by kernel_rfl) (by kernel_rfl) (by kernel_rfl) (by kernel_rfl) trivial ?_
  have hhe := heldE_le a.log k (by omega)
  refine At.auto 1 (by kernel_rfl) ?_
  refine At.done rfl ?_
  refine AW.seq ?_
  refine AW.seq ?_
  refine AW.region (At.start ?_)
  refine At.auto 2 (by kernel_rfl) ?_
  refine At.done rfl ?_
  refine AW.cond (decide ((held okE nxE a.log k) < 0)) (by kernel_rfl) (fun hb => ?_) (fun hb => ?_)
  · have h1 : (held okE nxE a.log k) < 0 := by simpa using hb
    clear hb
    refine AW.seq ?_
    refine AW.region (At.start ?_)
    refine At.auto 1 (by kernel_rfl) ?_
    refine At.done rfl ?_
    refine AW.ret ?_
    refine ⟨_, Sub.refl _ _, ?_⟩
    refine KF.conv (fun w => .int .i64 w) (fun w => []) (show (-1) = (held okE nxE a.log k) from by first | rfl | exact (held_neg nxE_ge (by omega) (by assumption)).symm) ?_
    exact KF.mk (.inr rfl) [] [.int .i64 (-1)] (by kernel_rfl) (by kernel_rfl) (by kernel_rfl) (by kernel_rfl) (by kernel_rfl)
  · have h1 : ¬ ((held okE nxE a.log k) < 0) := by simpa using hb
    clear hb
    refine AW.skip ?_
    refine AW.seq ?_
    refine AW.region (At.start ?_)
    refine At.auto 2 (by kernel_rfl) ?_
    refine At.done rfl ?_
    refine AW.ret ?_
    refine ⟨_, Sub.refl _ _, ?_⟩
    exact KF.mk (.inr rfl) [] [.int .i64 (held okE nxE a.log k)] (by kernel_rfl) (by kernel_rfl) (by kernel_rfl) (by kernel_rfl) (by kernel_rfl)
set_option maxRecDepth 100000 in
set_option maxHeartbeats 4000000 in
theorem laws_heldIntS_spec  (a : List Int) (k : Int) (ha : a.length ≤ 1048576) (hk : 0 ≤ k ∧ k + 20 * a.length ≤ 4611686018427387904) : FnSpec Try.prog 62 [.sl false 1 (a.map encI), .int .i64 k] [] (.int .i64 (held okI nxI a k)) [] := by
  refine FnSpec.of 21 Try.func62 rfl Try.ntmps62 (by simp) (AW.weakK ?_)
  refine AW.seq ?_
  refine AW.region (At.start ?_)
  refine At.auto 1 (by kernel_rfl) ?_
  refine At.done rfl ?_
  refine AW.seq ?_
  refine AW.seq ?_
  refine AW.region (At.start ?_)
  refine At.auto 1 (by kernel_rfl) ?_
  refine At.done rfl ?_
  refine AW.block ?_
  refine AW.loopW (fun (x : Nat × Int) => match x with | (i, kk) => Go.Sy.mk [.sl false 1 (a.map encI), .int .i64 kk, .un, .un, .un, .int .i64 (i : Int)] []) (fun (x : Nat × Int) => match x with | (i, kk) => i ≤ a.length ∧ 0 ≤ kk ∧ kk + 20 * ((a.length : Int) - i) ≤ 4611686018427387904 ∧ held okI nxI a k = held okI nxI (a.drop i) kk) (fun (x : Nat × Int) => match x with | (i, kk) => a.length - i) (0, k) ⟨by omega, by omega, by omega, by rw [List.drop_zero]⟩ (Sub.of [] [true, true, false, false, false, true] _ _ (by kernel_rfl) (by kernel_rfl) (by kernel_rfl)) ?_
  rintro ⟨i, kk⟩ ⟨hi, hkk, hkb, hR⟩
  refine AW.seq ?_
  refine AW.seq ?_
  refine AW.region (At.start ?_)
  refine At.auto 3 (by kernel_rfl) ?_
  refine At.say 8 (.int .i64 (((a.map encI).length : Nat) : Int)) (.int .i64 (a.length : Int)) (by kernel_rfl) (sayLen _ _) ?_
  refine At.auto 1 (by kernel_rfl) ?_
  refine At.done rfl ?_
  refine AW.cond (decide ((i : Int) < (a.length : Int))) (by kernel_rfl) (fun hb => ?_) (fun hb => ?_)
  · have h1 : (i : Int) < (a.length : Int) := by simpa using hb
    clear hb
    refine AW.skip ?_
    refine AW.seq ?_
    refine AW.block ?_
    refine AW.seq ?_
    refine AW.seq ?_
    refine AW.region (At.start ?_)
    refine At.auto 2 (by kernel_rfl) ?_
    refine At.idxSl (t := 25) (d := 14) (x := .tmp 12) (y := .tmp 13) (p := false) (es := 1) (xs := (a.map encI)) (kd := .i64) (i := (i : Int)) (e := 3) (by kernel_rfl) (by kernel_rfl) (by kernel_rfl) (by kernel_rfl) (by omega) (by first | omega | (simp only [List.length_map, List.length_append, List.length_take, List.length_drop, List.length_replicate, List.length_set, List.length_cons, List.length_nil]; omega)) ?_
    refine Exists.elim (show ∃ e, a[i]? = some e from ⟨_, List.getElem?_eq_getElem (by first | omega | (simp only [List.length_map, List.length_append, List.length_take, List.length_drop, List.length_replicate, List.length_set, List.length_cons, List.length_nil]; omega))⟩) fun e1 he1 => ?_
    refine At.ldVp (t := 3) (d := 15) (x := .tmp 14) (p := false) (es := 1) (xs := (a.map encI)) (j := i) (off := 0) (b := false) (m := 1) (encI e1) (.int .i64 e1) (by kernel_rfl) (by kernel_rfl) (by kernel_rfl) (by kernel_rfl) (mapGet he1) (by kernel_rfl) ?_
    refine At.auto 2 (by kernel_rfl) ?_
    refine At.done rfl ?_
    refine AW.cond (e1 != kk) (by kernel_rfl) (fun hb => ?_) (fun hb => ?_)
    · have h2 : ¬ (e1 = kk) := by simpa using hb
      clear hb
      refine AW.seq ?_
      refine AW.region (At.start ?_)
      refine At.auto 1 (by kernel_rfl) ?_
      refine At.done rfl ?_
      refine AW.ret ?_
      refine ⟨_, Sub.refl _ _, ?_⟩
      refine KF.conv (fun w => .int .i64 w) (fun w => []) (show (-1) = (held okI nxI a k) from by first | (rw [hR, dropCons he1, held, if_neg (by simp [okI, h1, h2])]; done) | (rw [hR, List.drop_of_length_le (by omega)]; rfl)) ?_
      exact KF.mk (.inr rfl) [] [.int .i64 (-1)] (by kernel_rfl) (by kernel_rfl) (by kernel_rfl) (by kernel_rfl) (by kernel_rfl)
    · have h2 : e1 = kk := by simpa using hb
      clear hb
      refine AW.skip ?_
      refine AW.region (At.start ?_)
      refine At.auto 2 (by kernel_rfl) ?_
      refine At.say 19 (.int .i64 (IntKind.i64.wrap (kk + 1))) (.int .i64 (kk + 1)) (by kernel_rfl) (sayI _ (by omega)) ?_
      refine At.auto 1 (by kernel_rfl) ?_
      refine At.done rfl ?_
      refine AW.region (At.start ?_)
      refine At.auto 2 (by kernel_rfl) ?_
      refine At.say 11 (.int .i64 (IntKind.i64.wrap ((i : Int) + 1))) (.int .i64 ((i : Int) + 1)) (by kernel_rfl) (sayI _ (by omega)) ?_
      refine At.auto 1 (by kernel_rfl) ?_
      refine At.done rfl ?_
      exact ⟨(i + 1, (kk + 1)), ⟨by omega, by omega, by omega, by rw [hR, dropCons he1, held, if_pos (by simp [okI, h1, h2])]; rfl⟩, (by simp only; omega), Sub.of [] [true, true, false, false, false, true] _ _ (by kernel_rfl) (by kernel_rfl) (by kernel_rfl)⟩
  · have h1 : ¬ ((i : Int) < (a.length : Int)) := by simpa using hb
    clear hb
    refine AW.exit ?_
    refine AW.seq ?_
    refine AW.region (At.start ?_)
    refine At.auto 2 (by kernel_rfl) ?_
    refine At.done rfl ?_
    refine AW.ret ?_
    refine ⟨_, Sub.refl _ _, ?_⟩
    refine KF.conv (fun w => .int .i64 w) (fun w => []) (show (kk) = (held okI nxI a k) from by first | (rw [hR, dropCons he1, held, if_neg (by simp [okI, h1])]; done) | (rw [hR, List.drop_of_length_le (by omega)]; rfl)) ?_
    exact KF.mk (.inr rfl) [] [.int .i64 kk] (by kernel_rfl) (by kernel_rfl) (by kernel_rfl) (by kernel_rfl) (by kernel_rfl)
set_option maxRecDepth 100000 in
set_option maxHeartbeats 4000000 in
theorem laws_heldRaft_spec  (a : Raft) (k : Int) (hz : SmallR a) (hk : 0 ≤ k ∧ k ≤ 4611686017427387904) : FnSpec Try.prog 22 [.agg [.int .i64 a.id, .int .i64 a.of_, .int .i64 a.role, .int .i64 a.commit, .int .i64 a.hard.term, .int .i64 a.hard.vote, .sl false 6 (a.hard.log.map encEnt), .sl false 1 (a.yes.map encI), .sl false 1 (a.next.map encI), .sl false 1 (a.match_.map encI)], .int .i64 k] [] (.int .i64 (heldRaft a k)) [] := by
  obtain ⟨z1, z2, z3, z4⟩ := id hz
  refine FnSpec.of 30 Try.func22 rfl Try.ntmps22 (by simp) (AW.weakK ?_)
  refine AW.seq ?_
  refine AW.region (At.start ?_)
  refine At.auto 2 (by kernel_rfl) ?_
  refine At.done rfl ?_
  refine AW.seq ?_
  refine AW.region (At.start ?_)
  refine At.auto 3 (by kernel_rfl) ?_
  refine At.call (laws_heldHard_spec  a.hard k (by first | omega | (dsimp only; omega) | (simp only [List.length_map, List.length_append, List.length_take, List.length_drop, List.length_replicate, List.length_set, List.length_cons, List.length_nil]; omega)) (by first | omega | (dsimp only; omega) | (simp only [List.length_map, List.length_append, List.length_take, List.length_drop, List.length_replicate, List.length_set, List.length_cons, List.length_nil]; omega))) Try.call61 true [] [] [] (by kernel_rfl) (by kernel_rfl) (by kernel_rfl) (by kernel_rfl) (by kernel_rfl) trivial ?_
  have hhh := heldE_le a.hard.log k (by omega)
  refine At.auto 1 (by kernel_rfl) ?_
  refine At.done rfl ?_
  refine AW.seq ?_
  refine AW.seq ?_
  refine AW.region (At.start ?_)
  refine At.auto 2 (by kernel_rfl) ?_
  refine At.done rfl ?_
  refine AW.cond (decide ((held okE nxE a.hard.log k) < 0)) (by kernel_rfl) (fun hb => ?_) (fun hb => ?_)
  · have h1 : (held okE nxE a.hard.log k) < 0 := by simpa using hb
    clear hb
    refine AW.seq ?_
    refine AW.region (At.start ?_)
    refine At.auto 1 (by kernel_rfl) ?_
    refine At.done rfl ?_
    refine AW.ret ?_
    refine ⟨_, Sub.refl _ _, ?_⟩
    refine KF.conv (fun w => .int .i64 w) (fun w => []) (show (-1) = (heldRaft a k) from by unfold heldRaft; first | (simp [h1]; done) | (simp only [h1, if_false, if_true]; exact (held_neg nxI_ge (by omega) (by assumption)).symm)) ?_
    exact KF.mk (.inr rfl) [] [.int .i64 (-1)] (by kernel_rfl) (by kernel_rfl) (by kernel_rfl) (by kernel_rfl) (by kernel_rfl)
  · have h1 : ¬ ((held okE nxE a.hard.log k) < 0) := by simpa using hb
    clear hb
    refine AW.skip ?_
    refine AW.seq ?_
    refine AW.region (At.start ?_)
    refine At.auto 3 (by kernel_rfl) ?_
    refine At.call (laws_heldIntS_spec  a.yes (held okE nxE a.hard.log k) (by first | omega | (dsimp only; omega) | (simp only [List.length_map, List.length_append, List.length_take, List.length_drop, List.length_replicate, List.length_set, List.length_cons, List.length_nil]; omega)) (by first | omega | (dsimp only; omega) | (simp only [List.length_map, List.length_append, List.length_take, List.length_drop, List.length_replicate, List.length_set, List.length_cons, List.length_nil]; omega))) Try.call62 true [] [] [] (by kernel_rfl) (by kernel_rfl) (by kernel_rfl) (by kernel_rfl) (by kernel_rfl) trivial ?_
    have hhi := heldI_le a.yes (held okE nxE a.hard.log k) (by omega)
    refine At.auto 1 (by kernel_rfl) ?_
    refine At.done rfl ?_
    refine AW.seq ?_
    refine AW.seq ?_
    refine AW.region (At.start ?_)
    refine At.auto 2 (by kernel_rfl) ?_
    refine At.done rfl ?_
    refine AW.cond (decide ((held okI nxI a.yes (held okE nxE a.hard.log k)) < 0)) (by kernel_rfl) (fun hb => ?_) (fun hb => ?_)
    · have h2 : (held okI nxI a.yes (held okE nxE a.hard.log k)) < 0 := by simpa using hb
      clear hb
      refine AW.seq ?_
      refine AW.region (At.start ?_)
      refine At.auto 1 (by kernel_rfl) ?_
      refine At.done rfl ?_
      refine AW.ret ?_
      refine ⟨_, Sub.refl _ _, ?_⟩
      refine KF.conv (fun w => .int .i64 w) (fun w => []) (show (-1) = (heldRaft a k) from by unfold heldRaft; first | (simp [h1, h2]; done) | (simp only [h1, h2, if_false, if_true]; exact (held_neg nxI_ge (by omega) (by assumption)).symm)) ?_
      exact KF.mk (.inr rfl) [] [.int .i64 (-1)] (by kernel_rfl) (by kernel_rfl) (by kernel_rfl) (by kernel_rfl) (by kernel_rfl)
    · have h2 : ¬ ((held okI nxI a.yes (held okE nxE a.hard.log k)) < 0) := by simpa using hb
      clear hb
      refine AW.skip ?_
      refine AW.seq ?_
      refine AW.region (At.start ?_)
      refine At.auto 3 (by kernel_rfl) ?_
      refine At.call (laws_heldIntS_spec  a.next (held okI nxI a.yes (held okE nxE a.hard.log k)) (by first | omega | (dsimp only; omega) | (simp only [List.length_map, List.length_append, List.length_take, List.length_drop, List.length_replicate, List.length_set, List.length_cons, List.length_nil]; omega)) (by first | omega | (dsimp only; omega) | (simp only [List.length_map, List.length_append, List.length_take, List.length_drop, List.length_replicate, List.length_set, List.length_cons, List.length_nil]; omega))) Try.call62 true [] [] [] (by kernel_rfl) (by kernel_rfl) (by kernel_rfl) (by kernel_rfl) (by kernel_rfl) trivial ?_
      have hhi := heldI_le a.next (held okI nxI a.yes (held okE nxE a.hard.log k)) (by omega)
      refine At.auto 1 (by kernel_rfl) ?_
      refine At.done rfl ?_
      refine AW.seq ?_
      refine AW.seq ?_
      refine AW.region (At.start ?_)
      refine At.auto 2 (by kernel_rfl) ?_
      refine At.done rfl ?_
      refine AW.cond (decide ((held okI nxI a.next (held okI nxI a.yes (held okE nxE a.hard.log k))) < 0)) (by kernel_rfl) (fun hb => ?_) (fun hb => ?_)
      · have h3 : (held okI nxI a.next (held okI nxI a.yes (held okE nxE a.hard.log k))) < 0 := by simpa using hb
        clear hb
        refine AW.seq ?_
        refine AW.region (At.start ?_)
        refine At.auto 1 (by kernel_rfl) ?_
        refine At.done rfl ?_
        refine AW.ret ?_
        refine ⟨_, Sub.refl _ _, ?_⟩
        refine KF.conv (fun w => .int .i64 w) (fun w => []) (show (-1) = (heldRaft a k) from by unfold heldRaft; first | (simp [h1, h2, h3]; done) | (simp only [h1, h2, h3, if_false, if_true]; exact (held_neg nxI_ge (by omega) (by assumption)).symm)) ?_
        exact KF.mk (.inr rfl) [] [.int .i64 (-1)] (by kernel_rfl) (by kernel_rfl) (by kernel_rfl) (by kernel_rfl) (by kernel_rfl)
      · have h3 : ¬ ((held okI nxI a.next (held okI nxI a.yes (held okE nxE a.hard.log k))) < 0) := by simpa using hb
        clear hb
        refine AW.skip ?_
        refine AW.seq ?_
        refine AW.region (At.start ?_)
        refine At.auto 3 (by kernel_rfl) ?_
        refine At.call (laws_heldIntS_spec  a.match_ (held okI nxI a.next (held okI nxI a.yes (held okE nxE a.hard.log k))) (by first | omega | (dsimp only; omega) | (simp only [List.length_map, List.length_append, List.length_take, List.length_drop, List.length_replicate, List.length_set, List.length_cons, List.length_nil]; omega)) (by first | omega | (dsimp only; omega) | (simp only [List.length_map, List.length_append, List.length_take, List.length_drop, List.length_replicate, List.length_set, List.length_cons, List.length_nil]; omega))) Try.call62 true [] [] [] (by kernel_rfl) (by kernel_rfl) (by kernel_rfl) (by kernel_rfl) (by kernel_rfl) trivial ?_
        have hhi := heldI_le a.match_ (held okI nxI a.next (held okI nxI a.yes (held okE nxE a.hard.log k))) (by omega)
        refine At.auto 1 (by kernel_rfl) ?_
        refine At.done rfl ?_
        refine AW.seq ?_
        refine AW.seq ?_
        refine AW.region (At.start ?_)
        refine At.auto 2 (by kernel_rfl) ?_
        refine At.done rfl ?_
        refine AW.cond (decide ((held okI nxI a.match_ (held okI nxI a.next (held okI nxI a.yes (held okE nxE a.hard.log k)))) < 0)) (by kernel_rfl) (fun hb => ?_) (fun hb => ?_)
        · have h4 : (held okI nxI a.match_ (held okI nxI a.next (held okI nxI a.yes (held okE nxE a.hard.log k)))) < 0 := by simpa using hb
          clear hb
          refine AW.seq ?_
          refine AW.region (At.start ?_)
          refine At.auto 1 (by kernel_rfl) ?_
          refine At.done rfl ?_
          refine AW.ret ?_
          refine ⟨_, Sub.refl _ _, ?_⟩
          refine KF.conv (fun w => .int .i64 w) (fun w => []) (show (-1) = (heldRaft a k) from by unfold heldRaft; first | (simp [h1, h2, h3, h4]; done) | (simp only [h1, h2, h3, h4, if_false, if_true]; exact (held_neg nxI_ge (by omega) (by assumption)).symm)) ?_
          exact KF.mk (.inr rfl) [] [.int .i64 (-1)] (by kernel_rfl) (by kernel_rfl) (by kernel_rfl) (by kernel_rfl) (by kernel_rfl)
        · have h4 : ¬ ((held okI nxI a.match_ (held okI nxI a.next (held okI nxI a.yes (held okE nxE a.hard.log k)))) < 0) := by simpa using hb
          clear hb
          refine AW.skip ?_
          refine AW.seq ?_
          refine AW.region (At.start ?_)
          refine At.auto 2 (by kernel_rfl) ?_
          refine At.done rfl ?_
          refine AW.ret ?_
          refine ⟨_, Sub.refl _ _, ?_⟩
          refine KF.conv (fun w => .int .i64 w) (fun w => []) (show (held okI nxI a.match_ (held okI nxI a.next (held okI nxI a.yes (held okE nxE a.hard.log k)))) = (heldRaft a k) from by unfold heldRaft; first | (simp [h1, h2, h3, h4]; done) | (simp only [h1, h2, h3, h4, if_false, if_true]; exact (held_neg nxI_ge (by omega) (by assumption)).symm)) ?_
          exact KF.mk (.inr rfl) [] [.int .i64 (held okI nxI a.match_ (held okI nxI a.next (held okI nxI a.yes (held okE nxE a.hard.log k))))] (by kernel_rfl) (by kernel_rfl) (by kernel_rfl) (by kernel_rfl) (by kernel_rfl)
set_option maxRecDepth 100000 in
set_option maxHeartbeats 4000000 in
theorem laws_heldRecS_spec  (a : List Rec) (k : Int) (ha : a.length ≤ 1048576) (hk : 0 ≤ k ∧ k + 20 * a.length ≤ 4611686018427387904) : FnSpec Try.prog 23 [.sl false 10 (a.map encRec), .int .i64 k] [] (.int .i64 (held okR nxR a k)) [] := by
  refine FnSpec.of 115 Try.func23 rfl Try.ntmps23 (by simp) (AW.weakK ?_)
  refine AW.seq ?_
  refine AW.region (At.start ?_)
  refine At.auto 1 (by kernel_rfl) ?_
  refine At.done rfl ?_
  refine AW.seq ?_
  refine AW.seq ?_
  refine AW.region (At.start ?_)
  refine At.auto 1 (by kernel_rfl) ?_
  refine At.done rfl ?_
  refine AW.block ?_
  refine AW.loopW (fun (x : Nat × Int) => match x with | (i, kk) => Go.Sy.mk [.sl false 10 (a.map encRec), .int .i64 kk, .un, .un, .un, .int .i64 (i : Int)] []) (fun (x : Nat × Int) => match x with | (i, kk) => i ≤ a.length ∧ 0 ≤ kk ∧ kk + 20 * ((a.length : Int) - i) ≤ 4611686018427387904 ∧ held okR nxR a k = held okR nxR (a.drop i) kk) (fun (x : Nat × Int) => match x with | (i, kk) => a.length - i) (0, k) ⟨by omega, by omega, by omega, by rw [List.drop_zero]⟩ (Sub.of [] [true, true, false, false, false, true] _ _ (by kernel_rfl) (by kernel_rfl) (by kernel_rfl)) ?_
  rintro ⟨i, kk⟩ ⟨hi, hkk, hkb, hR⟩
  refine AW.seq ?_
  refine AW.seq ?_
  refine AW.region (At.start ?_)
  refine At.auto 3 (by kernel_rfl) ?_
  refine At.say 8 (.int .i64 (((a.map encRec).length : Nat) : Int)) (.int .i64 (a.length : Int)) (by kernel_rfl) (sayLen _ _) ?_
  refine At.auto 1 (by kernel_rfl) ?_
  refine At.done rfl ?_
  refine AW.cond (decide ((i : Int) < (a.length : Int))) (by kernel_rfl) (fun hb => ?_) (fun hb => ?_)
  · have h1 : (i : Int) < (a.length : Int) := by simpa using hb
    clear hb
    refine AW.skip ?_
    refine AW.seq ?_
    refine AW.block ?_
    refine AW.seq ?_
    refine AW.seq ?_
    refine AW.region (At.start ?_)
    refine At.auto 2 (by kernel_rfl) ?_
    refine At.idxSl (t := 45) (d := 14) (x := .tmp 12) (y := .tmp 13) (p := false) (es := 10) (xs := (a.map encRec)) (kd := .i64) (i := (i : Int)) (e := 93) (by kernel_rfl) (by kernel_rfl) (by kernel_rfl) (by kernel_rfl) (by omega) (by first | omega | (simp only [List.length_map, List.length_append, List.length_take, List.length_drop, List.length_replicate, List.length_set, List.length_cons, List.length_nil]; omega)) ?_
    refine At.auto 1 (by kernel_rfl) ?_
    refine Exists.elim (show ∃ e, a[i]? = some e from ⟨_, List.getElem?_eq_getElem (by first | omega | (simp only [List.length_map, List.length_append, List.length_take, List.length_drop, List.length_replicate, List.length_set, List.length_cons, List.length_nil]; omega))⟩) fun e1 he1 => ?_
    refine At.ldVp (t := 3) (d := 16) (x := .tmp 15) (p := false) (es := 10) (xs := (a.map encRec)) (j := i) (off := 0) (b := false) (m := 1) (encRec e1) (.int .i64 e1.kind) (by kernel_rfl) (by kernel_rfl) (by kernel_rfl) (by kernel_rfl) (mapGet he1) (by kernel_rfl) ?_
    refine At.auto 2 (by kernel_rfl) ?_
    refine At.done rfl ?_
    refine AW.cond (e1.kind != kk) (by kernel_rfl) (fun hb => ?_) (fun hb => ?_)
    · have h2 : ¬ (e1.kind = kk) := by simpa using hb
      clear hb
      refine AW.seq ?_
      refine AW.region (At.start ?_)
      refine At.auto 1 (by kernel_rfl) ?_
      refine At.done rfl ?_
      refine AW.ret ?_
      refine ⟨_, Sub.refl _ _, ?_⟩
      refine KF.conv (fun w => .int .i64 w) (fun w => []) (show (-1) = (held okR nxR a k) from by first | (rw [hR, dropCons he1, held, if_neg (by simp [okR, h1, h2])]; done) | (rw [hR, List.drop_of_length_le (by omega)]; rfl)) ?_
      exact KF.mk (.inr rfl) [] [.int .i64 (-1)] (by kernel_rfl) (by kernel_rfl) (by kernel_rfl) (by kernel_rfl) (by kernel_rfl)
    · have h2 : e1.kind = kk := by simpa using hb
      clear hb
      refine AW.skip ?_
      refine AW.seq ?_
      refine AW.region (At.start ?_)
      refine At.auto 2 (by kernel_rfl) ?_
      refine At.say 20 (.int .i64 (IntKind.i64.wrap (kk + 1))) (.int .i64 (kk + 1)) (by kernel_rfl) (sayI _ (by omega)) ?_
      refine At.auto 1 (by kernel_rfl) ?_
      refine At.done rfl ?_
      refine AW.seq ?_
      refine AW.seq ?_
      refine AW.region (At.start ?_)
      refine At.auto 2 (by kernel_rfl) ?_
      refine At.idxSl (t := 45) (d := 23) (x := .tmp 21) (y := .tmp 22) (p := false) (es := 10) (xs := (a.map encRec)) (kd := .i64) (i := (i : Int)) (e := 93) (by kernel_rfl) (by kernel_rfl) (by kernel_rfl) (by kernel_rfl) (by omega) (by first | omega | (simp only [List.length_map, List.length_append, List.length_take, List.length_drop, List.length_replicate, List.length_set, List.length_cons, List.length_nil]; omega)) ?_
      refine At.auto 1 (by kernel_rfl) ?_
      refine At.ldVp (t := 3) (d := 25) (x := .tmp 24) (p := false) (es := 10) (xs := (a.map encRec)) (j := i) (off := 1) (b := false) (m := 1) (encRec e1) (.int .i64 e1.term) (by kernel_rfl) (by kernel_rfl) (by kernel_rfl) (by kernel_rfl) (mapGet he1) (by kernel_rfl) ?_
      refine At.auto 2 (by kernel_rfl) ?_
      refine At.done rfl ?_
      refine AW.cond (e1.term != (kk + 1)) (by kernel_rfl) (fun hb => ?_) (fun hb => ?_)
      · have h3 : ¬ (e1.term = kk + 1) := by simpa using hb
        clear hb
        refine AW.seq ?_
        refine AW.region (At.start ?_)
        refine At.auto 1 (by kernel_rfl) ?_
        refine At.done rfl ?_
        refine AW.ret ?_
        refine ⟨_, Sub.refl _ _, ?_⟩
        refine KF.conv (fun w => .int .i64 w) (fun w => []) (show (-1) = (held okR nxR a k) from by first | (rw [hR, dropCons he1, held, if_neg (by simp [okR, h1, h2, h3])]; done) | (rw [hR, List.drop_of_length_le (by omega)]; rfl)) ?_
        exact KF.mk (.inr rfl) [] [.int .i64 (-1)] (by kernel_rfl) (by kernel_rfl) (by kernel_rfl) (by kernel_rfl) (by kernel_rfl)
      · have h3 : e1.term = kk + 1 := by simpa using hb
        clear hb
        refine AW.skip ?_
        refine AW.seq ?_
        refine AW.region (At.start ?_)
        refine At.auto 2 (by kernel_rfl) ?_
        refine At.say 29 (.int .i64 (IntKind.i64.wrap ((kk + 1) + 1))) (.int .i64 (kk + 2)) (by kernel_rfl) (sayJ _ (by omega) (by omega)) ?_
        refine At.auto 1 (by kernel_rfl) ?_
        refine At.done rfl ?_
        refine AW.seq ?_
        refine AW.seq ?_
        refine AW.region (At.start ?_)
        refine At.auto 2 (by kernel_rfl) ?_
        refine At.idxSl (t := 45) (d := 32) (x := .tmp 30) (y := .tmp 31) (p := false) (es := 10) (xs := (a.map encRec)) (kd := .i64) (i := (i : Int)) (e := 93) (by kernel_rfl) (by kernel_rfl) (by kernel_rfl) (by kernel_rfl) (by omega) (by first | omega | (simp only [List.length_map, List.length_append, List.length_take, List.length_drop, List.length_replicate, List.length_set, List.length_cons, List.length_nil]; omega)) ?_
        refine At.auto 1 (by kernel_rfl) ?_
        refine At.ldVp (t := 3) (d := 34) (x := .tmp 33) (p := false) (es := 10) (xs := (a.map encRec)) (j := i) (off := 2) (b := false) (m := 1) (encRec e1) (.int .i64 e1.vote) (by kernel_rfl) (by kernel_rfl) (by kernel_rfl) (by kernel_rfl) (mapGet he1) (by kernel_rfl) ?_
        refine At.auto 2 (by kernel_rfl) ?_
        refine At.done rfl ?_
        refine AW.cond (e1.vote != (kk + 2)) (by kernel_rfl) (fun hb => ?_) (fun hb => ?_)
        · have h4 : ¬ (e1.vote = kk + 2) := by simpa using hb
          clear hb
          refine AW.seq ?_
          refine AW.region (At.start ?_)
          refine At.auto 1 (by kernel_rfl) ?_
          refine At.done rfl ?_
          refine AW.ret ?_
          refine ⟨_, Sub.refl _ _, ?_⟩
          refine KF.conv (fun w => .int .i64 w) (fun w => []) (show (-1) = (held okR nxR a k) from by first | (rw [hR, dropCons he1, held, if_neg (by simp [okR, h1, h2, h3, h4])]; done) | (rw [hR, List.drop_of_length_le (by omega)]; rfl)) ?_
          exact KF.mk (.inr rfl) [] [.int .i64 (-1)] (by kernel_rfl) (by kernel_rfl) (by kernel_rfl) (by kernel_rfl) (by kernel_rfl)
        · have h4 : e1.vote = kk + 2 := by simpa using hb
          clear hb
          refine AW.skip ?_
          refine AW.seq ?_
          refine AW.region (At.start ?_)
          refine At.auto 2 (by kernel_rfl) ?_
          refine At.say 38 (.int .i64 (IntKind.i64.wrap ((kk + 2) + 1))) (.int .i64 (kk + 3)) (by kernel_rfl) (sayJ _ (by omega) (by omega)) ?_
          refine At.auto 1 (by kernel_rfl) ?_
          refine At.done rfl ?_
          refine AW.seq ?_
          refine AW.seq ?_
          refine AW.region (At.start ?_)
          refine At.auto 2 (by kernel_rfl) ?_
          refine At.idxSl (t := 45) (d := 41) (x := .tmp 39) (y := .tmp 40) (p := false) (es := 10) (xs := (a.map encRec)) (kd := .i64) (i := (i : Int)) (e := 93) (by kernel_rfl) (by kernel_rfl) (by kernel_rfl) (by kernel_rfl) (by omega) (by first | omega | (simp only [List.length_map, List.length_append, List.length_take, List.length_drop, List.length_replicate, List.length_set, List.length_cons, List.length_nil]; omega)) ?_
          refine At.auto 1 (by kernel_rfl) ?_
          refine At.ldVp (t := 3) (d := 43) (x := .tmp 42) (p := false) (es := 10) (xs := (a.map encRec)) (j := i) (off := 3) (b := false) (m := 1) (encRec e1) (.int .i64 e1.at_) (by kernel_rfl) (by kernel_rfl) (by kernel_rfl) (by kernel_rfl) (mapGet he1) (by kernel_rfl) ?_
          refine At.auto 2 (by kernel_rfl) ?_
          refine At.done rfl ?_
          refine AW.cond (e1.at_ != (kk + 3)) (by kernel_rfl) (fun hb => ?_) (fun hb => ?_)
          · have h5 : ¬ (e1.at_ = kk + 3) := by simpa using hb
            clear hb
            refine AW.seq ?_
            refine AW.region (At.start ?_)
            refine At.auto 1 (by kernel_rfl) ?_
            refine At.done rfl ?_
            refine AW.ret ?_
            refine ⟨_, Sub.refl _ _, ?_⟩
            refine KF.conv (fun w => .int .i64 w) (fun w => []) (show (-1) = (held okR nxR a k) from by first | (rw [hR, dropCons he1, held, if_neg (by simp [okR, h1, h2, h3, h4, h5])]; done) | (rw [hR, List.drop_of_length_le (by omega)]; rfl)) ?_
            exact KF.mk (.inr rfl) [] [.int .i64 (-1)] (by kernel_rfl) (by kernel_rfl) (by kernel_rfl) (by kernel_rfl) (by kernel_rfl)
          · have h5 : e1.at_ = kk + 3 := by simpa using hb
            clear hb
            refine AW.skip ?_
            refine AW.seq ?_
            refine AW.region (At.start ?_)
            refine At.auto 2 (by kernel_rfl) ?_
            refine At.say 47 (.int .i64 (IntKind.i64.wrap ((kk + 3) + 1))) (.int .i64 (kk + 4)) (by kernel_rfl) (sayJ _ (by omega) (by omega)) ?_
            refine At.auto 1 (by kernel_rfl) ?_
            refine At.done rfl ?_
            refine AW.seq ?_
            refine AW.seq ?_
            refine AW.region (At.start ?_)
            refine At.auto 2 (by kernel_rfl) ?_
            refine At.idxSl (t := 45) (d := 50) (x := .tmp 48) (y := .tmp 49) (p := false) (es := 10) (xs := (a.map encRec)) (kd := .i64) (i := (i : Int)) (e := 93) (by kernel_rfl) (by kernel_rfl) (by kernel_rfl) (by kernel_rfl) (by omega) (by first | omega | (simp only [List.length_map, List.length_append, List.length_take, List.length_drop, List.length_replicate, List.length_set, List.length_cons, List.length_nil]; omega)) ?_
            refine At.auto 2 (by kernel_rfl) ?_
            refine At.ldVp (t := 3) (d := 53) (x := .tmp 52) (p := false) (es := 10) (xs := (a.map encRec)) (j := i) (off := 4) (b := false) (m := 1) (encRec e1) (.int .i64 e1.entry.term) (by kernel_rfl) (by kernel_rfl) (by kernel_rfl) (by kernel_rfl) (mapGet he1) (by kernel_rfl) ?_
            refine At.auto 2 (by kernel_rfl) ?_
            refine At.done rfl ?_
            refine AW.cond (e1.entry.term != (kk + 4)) (by kernel_rfl) (fun hb => ?_) (fun hb => ?_)
            · have h6 : ¬ (e1.entry.term = kk + 4) := by simpa using hb
              clear hb
              refine AW.seq ?_
              refine AW.region (At.start ?_)
              refine At.auto 1 (by kernel_rfl) ?_
              refine At.done rfl ?_
              refine AW.ret ?_
              refine ⟨_, Sub.refl _ _, ?_⟩
              refine KF.conv (fun w => .int .i64 w) (fun w => []) (show (-1) = (held okR nxR a k) from by first | (rw [hR, dropCons he1, held, if_neg (by simp [okR, h1, h2, h3, h4, h5, h6])]; done) | (rw [hR, List.drop_of_length_le (by omega)]; rfl)) ?_
              exact KF.mk (.inr rfl) [] [.int .i64 (-1)] (by kernel_rfl) (by kernel_rfl) (by kernel_rfl) (by kernel_rfl) (by kernel_rfl)
            · have h6 : e1.entry.term = kk + 4 := by simpa using hb
              clear hb
              refine AW.skip ?_
              refine AW.seq ?_
              refine AW.region (At.start ?_)
              refine At.auto 2 (by kernel_rfl) ?_
              refine At.say 57 (.int .i64 (IntKind.i64.wrap ((kk + 4) + 1))) (.int .i64 (kk + 5)) (by kernel_rfl) (sayJ _ (by omega) (by omega)) ?_
              refine At.auto 1 (by kernel_rfl) ?_
              refine At.done rfl ?_
              refine AW.seq ?_
              refine AW.seq ?_
              refine AW.region (At.start ?_)
              refine At.auto 2 (by kernel_rfl) ?_
              refine At.idxSl (t := 45) (d := 60) (x := .tmp 58) (y := .tmp 59) (p := false) (es := 10) (xs := (a.map encRec)) (kd := .i64) (i := (i : Int)) (e := 93) (by kernel_rfl) (by kernel_rfl) (by kernel_rfl) (by kernel_rfl) (by omega) (by first | omega | (simp only [List.length_map, List.length_append, List.length_take, List.length_drop, List.length_replicate, List.length_set, List.length_cons, List.length_nil]; omega)) ?_
              refine At.auto 3 (by kernel_rfl) ?_
              refine At.ldVp (t := 3) (d := 64) (x := .tmp 63) (p := false) (es := 10) (xs := (a.map encRec)) (j := i) (off := 5) (b := false) (m := 1) (encRec e1) (.int .i64 e1.entry.cmd.kind) (by kernel_rfl) (by kernel_rfl) (by kernel_rfl) (by kernel_rfl) (mapGet he1) (by kernel_rfl) ?_
              refine At.auto 2 (by kernel_rfl) ?_
              refine At.done rfl ?_
              refine AW.cond (e1.entry.cmd.kind != (kk + 5)) (by kernel_rfl) (fun hb => ?_) (fun hb => ?_)
              · have h7 : ¬ (e1.entry.cmd.kind = kk + 5) := by simpa using hb
                clear hb
                refine AW.seq ?_
                refine AW.region (At.start ?_)
                refine At.auto 1 (by kernel_rfl) ?_
                refine At.done rfl ?_
                refine AW.ret ?_
                refine ⟨_, Sub.refl _ _, ?_⟩
                refine KF.conv (fun w => .int .i64 w) (fun w => []) (show (-1) = (held okR nxR a k) from by first | (rw [hR, dropCons he1, held, if_neg (by simp [okR, h1, h2, h3, h4, h5, h6, h7])]; done) | (rw [hR, List.drop_of_length_le (by omega)]; rfl)) ?_
                exact KF.mk (.inr rfl) [] [.int .i64 (-1)] (by kernel_rfl) (by kernel_rfl) (by kernel_rfl) (by kernel_rfl) (by kernel_rfl)
              · have h7 : e1.entry.cmd.kind = kk + 5 := by simpa using hb
                clear hb
                refine AW.skip ?_
                refine AW.seq ?_
                refine AW.region (At.start ?_)
                refine At.auto 2 (by kernel_rfl) ?_
                refine At.say 68 (.int .i64 (IntKind.i64.wrap ((kk + 5) + 1))) (.int .i64 (kk + 6)) (by kernel_rfl) (sayJ _ (by omega) (by omega)) ?_
                refine At.auto 1 (by kernel_rfl) ?_
                refine At.done rfl ?_
                refine AW.seq ?_
                refine AW.seq ?_
                refine AW.region (At.start ?_)
                refine At.auto 2 (by kernel_rfl) ?_
                refine At.idxSl (t := 45) (d := 71) (x := .tmp 69) (y := .tmp 70) (p := false) (es := 10) (xs := (a.map encRec)) (kd := .i64) (i := (i : Int)) (e := 93) (by kernel_rfl) (by kernel_rfl) (by kernel_rfl) (by kernel_rfl) (by omega) (by first | omega | (simp only [List.length_map, List.length_append, List.length_take, List.length_drop, List.length_replicate, List.length_set, List.length_cons, List.length_nil]; omega)) ?_
                refine At.auto 3 (by kernel_rfl) ?_
                refine At.ldVp (t := 3) (d := 75) (x := .tmp 74) (p := false) (es := 10) (xs := (a.map encRec)) (j := i) (off := 6) (b := false) (m := 1) (encRec e1) (.int .i64 e1.entry.cmd.release) (by kernel_rfl) (by kernel_rfl) (by kernel_rfl) (by kernel_rfl) (mapGet he1) (by kernel_rfl) ?_
                refine At.auto 2 (by kernel_rfl) ?_
                refine At.done rfl ?_
                refine AW.cond (e1.entry.cmd.release != (kk + 6)) (by kernel_rfl) (fun hb => ?_) (fun hb => ?_)
                · have h8 : ¬ (e1.entry.cmd.release = kk + 6) := by simpa using hb
                  clear hb
                  refine AW.seq ?_
                  refine AW.region (At.start ?_)
                  refine At.auto 1 (by kernel_rfl) ?_
                  refine At.done rfl ?_
                  refine AW.ret ?_
                  refine ⟨_, Sub.refl _ _, ?_⟩
                  refine KF.conv (fun w => .int .i64 w) (fun w => []) (show (-1) = (held okR nxR a k) from by first | (rw [hR, dropCons he1, held, if_neg (by simp [okR, h1, h2, h3, h4, h5, h6, h7, h8])]; done) | (rw [hR, List.drop_of_length_le (by omega)]; rfl)) ?_
                  exact KF.mk (.inr rfl) [] [.int .i64 (-1)] (by kernel_rfl) (by kernel_rfl) (by kernel_rfl) (by kernel_rfl) (by kernel_rfl)
                · have h8 : e1.entry.cmd.release = kk + 6 := by simpa using hb
                  clear hb
                  refine AW.skip ?_
                  refine AW.seq ?_
                  refine AW.region (At.start ?_)
                  refine At.auto 2 (by kernel_rfl) ?_
                  refine At.say 79 (.int .i64 (IntKind.i64.wrap ((kk + 6) + 1))) (.int .i64 (kk + 7)) (by kernel_rfl) (sayJ _ (by omega) (by omega)) ?_
                  refine At.auto 1 (by kernel_rfl) ?_
                  refine At.done rfl ?_
                  refine AW.seq ?_
                  refine AW.seq ?_
                  refine AW.region (At.start ?_)
                  refine At.auto 2 (by kernel_rfl) ?_
                  refine At.idxSl (t := 45) (d := 82) (x := .tmp 80) (y := .tmp 81) (p := false) (es := 10) (xs := (a.map encRec)) (kd := .i64) (i := (i : Int)) (e := 93) (by kernel_rfl) (by kernel_rfl) (by kernel_rfl) (by kernel_rfl) (by omega) (by first | omega | (simp only [List.length_map, List.length_append, List.length_take, List.length_drop, List.length_replicate, List.length_set, List.length_cons, List.length_nil]; omega)) ?_
                  refine At.auto 3 (by kernel_rfl) ?_
                  refine At.ldVp (t := 3) (d := 86) (x := .tmp 85) (p := false) (es := 10) (xs := (a.map encRec)) (j := i) (off := 7) (b := false) (m := 1) (encRec e1) (.int .i64 e1.entry.cmd.node) (by kernel_rfl) (by kernel_rfl) (by kernel_rfl) (by kernel_rfl) (mapGet he1) (by kernel_rfl) ?_
                  refine At.auto 2 (by kernel_rfl) ?_
                  refine At.done rfl ?_
                  refine AW.cond (e1.entry.cmd.node != (kk + 7)) (by kernel_rfl) (fun hb => ?_) (fun hb => ?_)
                  · have h9 : ¬ (e1.entry.cmd.node = kk + 7) := by simpa using hb
                    clear hb
                    refine AW.seq ?_
                    refine AW.region (At.start ?_)
                    refine At.auto 1 (by kernel_rfl) ?_
                    refine At.done rfl ?_
                    refine AW.ret ?_
                    refine ⟨_, Sub.refl _ _, ?_⟩
                    refine KF.conv (fun w => .int .i64 w) (fun w => []) (show (-1) = (held okR nxR a k) from by first | (rw [hR, dropCons he1, held, if_neg (by simp [okR, h1, h2, h3, h4, h5, h6, h7, h8, h9])]; done) | (rw [hR, List.drop_of_length_le (by omega)]; rfl)) ?_
                    exact KF.mk (.inr rfl) [] [.int .i64 (-1)] (by kernel_rfl) (by kernel_rfl) (by kernel_rfl) (by kernel_rfl) (by kernel_rfl)
                  · have h9 : e1.entry.cmd.node = kk + 7 := by simpa using hb
                    clear hb
                    refine AW.skip ?_
                    refine AW.seq ?_
                    refine AW.region (At.start ?_)
                    refine At.auto 2 (by kernel_rfl) ?_
                    refine At.say 90 (.int .i64 (IntKind.i64.wrap ((kk + 7) + 1))) (.int .i64 (kk + 8)) (by kernel_rfl) (sayJ _ (by omega) (by omega)) ?_
                    refine At.auto 1 (by kernel_rfl) ?_
                    refine At.done rfl ?_
                    refine AW.seq ?_
                    refine AW.seq ?_
                    refine AW.region (At.start ?_)
                    refine At.auto 2 (by kernel_rfl) ?_
                    refine At.idxSl (t := 45) (d := 93) (x := .tmp 91) (y := .tmp 92) (p := false) (es := 10) (xs := (a.map encRec)) (kd := .i64) (i := (i : Int)) (e := 93) (by kernel_rfl) (by kernel_rfl) (by kernel_rfl) (by kernel_rfl) (by omega) (by first | omega | (simp only [List.length_map, List.length_append, List.length_take, List.length_drop, List.length_replicate, List.length_set, List.length_cons, List.length_nil]; omega)) ?_
                    refine At.auto 3 (by kernel_rfl) ?_
                    refine At.ldVp (t := 3) (d := 97) (x := .tmp 96) (p := false) (es := 10) (xs := (a.map encRec)) (j := i) (off := 8) (b := false) (m := 1) (encRec e1) (.int .i64 e1.entry.cmd.size) (by kernel_rfl) (by kernel_rfl) (by kernel_rfl) (by kernel_rfl) (mapGet he1) (by kernel_rfl) ?_
                    refine At.auto 2 (by kernel_rfl) ?_
                    refine At.done rfl ?_
                    refine AW.cond (e1.entry.cmd.size != (kk + 8)) (by kernel_rfl) (fun hb => ?_) (fun hb => ?_)
                    · have h10 : ¬ (e1.entry.cmd.size = kk + 8) := by simpa using hb
                      clear hb
                      refine AW.seq ?_
                      refine AW.region (At.start ?_)
                      refine At.auto 1 (by kernel_rfl) ?_
                      refine At.done rfl ?_
                      refine AW.ret ?_
                      refine ⟨_, Sub.refl _ _, ?_⟩
                      refine KF.conv (fun w => .int .i64 w) (fun w => []) (show (-1) = (held okR nxR a k) from by first | (rw [hR, dropCons he1, held, if_neg (by simp [okR, h1, h2, h3, h4, h5, h6, h7, h8, h9, h10])]; done) | (rw [hR, List.drop_of_length_le (by omega)]; rfl)) ?_
                      exact KF.mk (.inr rfl) [] [.int .i64 (-1)] (by kernel_rfl) (by kernel_rfl) (by kernel_rfl) (by kernel_rfl) (by kernel_rfl)
                    · have h10 : e1.entry.cmd.size = kk + 8 := by simpa using hb
                      clear hb
                      refine AW.skip ?_
                      refine AW.seq ?_
                      refine AW.region (At.start ?_)
                      refine At.auto 2 (by kernel_rfl) ?_
                      refine At.say 101 (.int .i64 (IntKind.i64.wrap ((kk + 8) + 1))) (.int .i64 (kk + 9)) (by kernel_rfl) (sayJ _ (by omega) (by omega)) ?_
                      refine At.auto 1 (by kernel_rfl) ?_
                      refine At.done rfl ?_
                      refine AW.seq ?_
                      refine AW.seq ?_
                      refine AW.regionD Try_mix (At.start ?_)
                      refine At.auto 2 (by kernel_rfl) ?_
                      refine At.idxSl (t := 45) (d := 104) (x := .tmp 102) (y := .tmp 103) (p := false) (es := 10) (xs := (a.map encRec)) (kd := .i64) (i := (i : Int)) (e := 93) (by kernel_rfl) (by kernel_rfl) (by kernel_rfl) (by kernel_rfl) (by omega) (by first | omega | (simp only [List.length_map, List.length_append, List.length_take, List.length_drop, List.length_replicate, List.length_set, List.length_cons, List.length_nil]; omega)) ?_
                      refine At.auto 3 (by kernel_rfl) ?_
                      refine At.ldVp (t := 9) (d := 108) (x := .tmp 107) (p := false) (es := 10) (xs := (a.map encRec)) (j := i) (off := 9) (b := false) (m := 1) (encRec e1) (.str e1.entry.cmd.digest) (by kernel_rfl) (by kernel_rfl) (by kernel_rfl) (by kernel_rfl) (mapGet he1) (by kernel_rfl) ?_
                      refine At.auto 1 (by kernel_rfl) ?_
                      refine At.call (laws_markText_spec  (kk + 9) (by first | omega | (dsimp only; omega) | (simp only [List.length_map, List.length_append, List.length_take, List.length_drop, List.length_replicate, List.length_set, List.length_cons, List.length_nil]; omega))) Try.call48 true [] [] [] (by kernel_rfl) (by kernel_rfl) (by kernel_rfl) (by kernel_rfl) (by kernel_rfl) trivial ?_
                      refine At.auto 1 (by kernel_rfl) ?_
                      refine At.done rfl ⟨by kernel_rfl, ?_⟩
                      refine AW.cond (!(e1.entry.cmd.digest.toList == (markT (kk + 9)).toList)) (by kernel_rfl) (fun hb => ?_) (fun hb => ?_)
                      · have h11 : ¬ (e1.entry.cmd.digest.toList = (markT (kk + 9)).toList) := by simpa using hb
                        clear hb
                        refine AW.seq ?_
                        refine AW.region (At.start ?_)
                        refine At.auto 1 (by kernel_rfl) ?_
                        refine At.done rfl ?_
                        refine AW.ret ?_
                        refine ⟨_, Sub.refl _ _, ?_⟩
                        refine KF.conv (fun w => .int .i64 w) (fun w => []) (show (-1) = (held okR nxR a k) from by first | (rw [hR, dropCons he1, held, if_neg (by simp [okR, h1, h2, h3, h4, h5, h6, h7, h8, h9, h10, h11])]; done) | (rw [hR, List.drop_of_length_le (by omega)]; rfl)) ?_
                        exact KF.mk (.inr rfl) [] [.int .i64 (-1)] (by kernel_rfl) (by kernel_rfl) (by kernel_rfl) (by kernel_rfl) (by kernel_rfl)
                      · have h11 : e1.entry.cmd.digest.toList = (markT (kk + 9)).toList := by simpa using hb
                        clear hb
                        refine AW.skip ?_
                        refine AW.region (At.start ?_)
                        refine At.auto 2 (by kernel_rfl) ?_
                        refine At.say 113 (.int .i64 (IntKind.i64.wrap ((kk + 9) + 1))) (.int .i64 (kk + 10)) (by kernel_rfl) (sayJ _ (by omega) (by omega)) ?_
                        refine At.auto 1 (by kernel_rfl) ?_
                        refine At.done rfl ?_
                        refine AW.region (At.start ?_)
                        refine At.auto 2 (by kernel_rfl) ?_
                        refine At.say 11 (.int .i64 (IntKind.i64.wrap ((i : Int) + 1))) (.int .i64 ((i : Int) + 1)) (by kernel_rfl) (sayI _ (by omega)) ?_
                        refine At.auto 1 (by kernel_rfl) ?_
                        refine At.done rfl ?_
                        exact ⟨(i + 1, (kk + 10)), ⟨by omega, by omega, by omega, by rw [hR, dropCons he1, held, if_pos (by simp [okR, h1, h2, h3, h4, h5, h6, h7, h8, h9, h10, h11])]; rfl⟩, (by simp only; omega), Sub.of [] [true, true, false, false, false, true] _ _ (by kernel_rfl) (by kernel_rfl) (by kernel_rfl)⟩
  · have h1 : ¬ ((i : Int) < (a.length : Int)) := by simpa using hb
    clear hb
    refine AW.exit ?_
    refine AW.seq ?_
    refine AW.region (At.start ?_)
    refine At.auto 2 (by kernel_rfl) ?_
    refine At.done rfl ?_
    refine AW.ret ?_
    refine ⟨_, Sub.refl _ _, ?_⟩
    refine KF.conv (fun w => .int .i64 w) (fun w => []) (show (kk) = (held okR nxR a k) from by first | (rw [hR, dropCons he1, held, if_neg (by simp [okR, h1])]; done) | (rw [hR, List.drop_of_length_le (by omega)]; rfl)) ?_
    exact KF.mk (.inr rfl) [] [.int .i64 kk] (by kernel_rfl) (by kernel_rfl) (by kernel_rfl) (by kernel_rfl) (by kernel_rfl)
end Go.Proofs.Ytlmadhahghiedaa
