/- The contracts of the functions that FnExactRaftBeat reaches (each: what it answers, said over values), printed by a program of this session (wip/sy/g/gen.py). -/
import Derived.Test.YtlmadhahghiedaaFFnExactRaftBeat3
set_option linter.unusedVariables false
set_option linter.unusedSimpArgs false
namespace Go.Proofs.Ytlmadhahghiedaa
open Go Go.Sy Go.Proofs
set_option maxRecDepth 100000 in
set_option maxHeartbeats 4000000 in
theorem laws_markOutS_spec  (a : List Out) (k : Int) (hk : 0 ≤ k) (ha : a.length ≤ 1048576) (he : ends nxO a k ≤ 4611686018427387904) (hea : ∀ o ∈ a, o.msg.entries.length ≤ 1048576) : FnSpec Try.prog 14 [.ref 0, .int .i64 k] [.arr 76 17 (a.map encOut)] (.int .i64 (ends nxO a k)) [.arr 76 17 ((marks markO nxO a k).map encOut)] := by
  refine FnSpec.of 157 Try.func14 rfl Try.ntmps14 (by simp) (AW.weakK ?_)
  refine AW.seq ?_
  refine AW.region (At.start ?_)
  refine At.auto 1 (by kernel_rfl) ?_
  refine At.done rfl ?_
  refine AW.seq ?_
  refine AW.seq ?_
  refine AW.region (At.start ?_)
  refine At.auto 1 (by kernel_rfl) ?_
  refine At.done rfl ?_
  refine AW.block ?_
  refine AW.loopW (fun (x : Nat × Int × List Out) => match x with | (i, kk, o) => Go.Sy.mk [.ref 0, .int .i64 kk, .un, .un, .un, .int .i64 (i : Int)] [(0, .arr 76 17 (o.map encOut))]) (fun (x : Nat × Int × List Out) => match x with | (i, kk, o) => 0 ≤ kk ∧ MInv markO nxO a k i kk o) (fun (x : Nat × Int × List Out) => match x with | (i, kk, o) => a.length - i) (0, k, a) ⟨hk, MInv.start⟩ (Sub.of [(0, 0)] [true, true, false, false, false, true] _ _ (by kernel_rfl) (by kernel_rfl) (by kernel_rfl)) ?_
  rintro ⟨i, kk, o⟩ ⟨hkk, hR⟩
  have hle := hR.ge nxO_ge
  have hlo := hR.2.1
  refine AW.seq ?_
  refine AW.seq ?_
  refine AW.region (At.start ?_)
  refine At.auto 3 (by kernel_rfl) ?_
  refine At.say 8 (.int .i64 (((o.map encOut).length : Nat) : Int)) (.int .i64 (o.length : Int)) (by kernel_rfl) (sayLen _ _) ?_
  refine At.auto 1 (by kernel_rfl) ?_
  refine At.done rfl ?_
  refine AW.cond (decide ((i : Int) < (o.length : Int))) (by kernel_rfl) (fun hb => ?_) (fun hb => ?_)
  · have h1 : (i : Int) < (o.length : Int) := by simpa using hb
    clear hb
    refine AW.skip ?_
    refine AW.seq ?_
    refine AW.block ?_
    refine AW.seq ?_
    refine AW.region (At.start ?_)
    refine At.auto 3 (by kernel_rfl) ?_
    refine At.idxRef (t := 29) (d := 15) (x := .tmp 12) (y := .tmp 13) (j := 0) (xs := (o.map encOut)) (kd := .i64) (i := (i : Int)) (e := 76) (es := 17) (by kernel_rfl) (by kernel_rfl) (by kernel_rfl) (by kernel_rfl) (by kernel_rfl) (by omega) (by first | omega | (simp only [List.length_map, List.length_append, List.length_take, List.length_drop, List.length_replicate, List.length_set, List.length_cons, List.length_nil]; omega)) ?_
    refine At.auto 1 (by kernel_rfl) ?_
    refine Exists.elim (show ∃ e, o[i]? = some e from ⟨_, List.getElem?_eq_getElem (by first | omega | (simp only [List.length_map, List.length_append, List.length_take, List.length_drop, List.length_replicate, List.length_set, List.length_cons, List.length_nil]; omega))⟩) fun e1 he1 => ?_
    have hlt := hR.le nxO_ge he1
    have hge := ends_ge nxE_ge e1.msg.entries (kk + 16)
    rw [nxO] at hlt
    have hen := hea _ (List.mem_of_getElem? (hR.get he1))
    refine At.stEl (t := 3) (i := 0) (e := 76) (es := 17) (j := i) (off := 0) (x := .tmp 16) (y := .tmp 14) (xs := (o.map encOut)) (xs' := ((o.set i (⟨kk, e1.msg⟩ : Out)).map encOut)) (ys := [.int .i64 kk]) (v := .int .i64 kk) (encOut e1) (encOut (⟨kk, e1.msg⟩ : Out)) (by kernel_rfl) (by kernel_rfl) (by kernel_rfl) (by kernel_rfl) (by kernel_rfl) (mapGet he1) (by kernel_rfl) setV ?_
    refine At.done rfl ?_
    refine AW.seq ?_
    refine AW.region (At.start ?_)
    refine At.auto 2 (by kernel_rfl) ?_
    refine At.say 18 (.int .i64 (IntKind.i64.wrap (kk + 1))) (.int .i64 (kk + 1)) (by kernel_rfl) (sayI _ (by omega)) ?_
    refine At.auto 1 (by kernel_rfl) ?_
    refine At.done rfl ?_
    refine AW.seq ?_
    refine AW.region (At.start ?_)
    refine At.auto 3 (by kernel_rfl) ?_
    refine At.idxRef (t := 29) (d := 22) (x := .tmp 19) (y := .tmp 20) (j := 0) (xs := ((o.set i (⟨kk, e1.msg⟩ : Out)).map encOut)) (kd := .i64) (i := (i : Int)) (e := 76) (es := 17) (by kernel_rfl) (by kernel_rfl) (by kernel_rfl) (by kernel_rfl) (by kernel_rfl) (by omega) (by first | omega | (simp only [List.length_map, List.length_append, List.length_take, List.length_drop, List.length_replicate, List.length_set, List.length_cons, List.length_nil]; omega)) ?_
    refine At.auto 2 (by kernel_rfl) ?_
    refine At.stEl (t := 3) (i := 0) (e := 76) (es := 17) (j := i) (off := 1) (x := .tmp 24) (y := .tmp 21) (xs := ((o.set i (⟨kk, e1.msg⟩ : Out)).map encOut)) (xs' := ((o.set i (⟨kk, ⟨kk + 1, e1.msg.from_, e1.msg.term, e1.msg.at_, e1.msg.atTerm, e1.msg.commit, e1.msg.yes, e1.msg.release, e1.msg.part, e1.msg.bytes, ⟨e1.msg.cmd.kind, e1.msg.cmd.release, e1.msg.cmd.node, e1.msg.cmd.size, e1.msg.cmd.digest⟩, e1.msg.entries⟩⟩ : Out)).map encOut)) (ys := [.int .i64 (kk + 1)]) (v := .int .i64 (kk + 1)) (encOut (⟨kk, e1.msg⟩ : Out)) (encOut (⟨kk, ⟨kk + 1, e1.msg.from_, e1.msg.term, e1.msg.at_, e1.msg.atTerm, e1.msg.commit, e1.msg.yes, e1.msg.release, e1.msg.part, e1.msg.bytes, ⟨e1.msg.cmd.kind, e1.msg.cmd.release, e1.msg.cmd.node, e1.msg.cmd.size, e1.msg.cmd.digest⟩, e1.msg.entries⟩⟩ : Out)) (by kernel_rfl) (by kernel_rfl) (by kernel_rfl) (by kernel_rfl) (by kernel_rfl) (mapGet (setGet he1)) (by kernel_rfl) setSetV ?_
    refine At.done rfl ?_
    refine AW.seq ?_
    refine AW.region (At.start ?_)
    refine At.auto 2 (by kernel_rfl) ?_
    refine At.say 26 (.int .i64 (IntKind.i64.wrap ((kk + 1) + 1))) (.int .i64 (kk + 2)) (by kernel_rfl) (sayJ _ (by omega) (by omega)) ?_
    refine At.auto 1 (by kernel_rfl) ?_
    refine At.done rfl ?_
    refine AW.seq ?_
    refine AW.region (At.start ?_)
    refine At.auto 3 (by kernel_rfl) ?_
    refine At.idxRef (t := 29) (d := 30) (x := .tmp 27) (y := .tmp 28) (j := 0) (xs := ((o.set i (⟨kk, ⟨kk + 1, e1.msg.from_, e1.msg.term, e1.msg.at_, e1.msg.atTerm, e1.msg.commit, e1.msg.yes, e1.msg.release, e1.msg.part, e1.msg.bytes, ⟨e1.msg.cmd.kind, e1.msg.cmd.release, e1.msg.cmd.node, e1.msg.cmd.size, e1.msg.cmd.digest⟩, e1.msg.entries⟩⟩ : Out)).map encOut)) (kd := .i64) (i := (i : Int)) (e := 76) (es := 17) (by kernel_rfl) (by kernel_rfl) (by kernel_rfl) (by kernel_rfl) (by kernel_rfl) (by omega) (by first | omega | (simp only [List.length_map, List.length_append, List.length_take, List.length_drop, List.length_replicate, List.length_set, List.length_cons, List.length_nil]; omega)) ?_
    refine At.auto 2 (by kernel_rfl) ?_
    refine At.stEl (t := 3) (i := 0) (e := 76) (es := 17) (j := i) (off := 2) (x := .tmp 32) (y := .tmp 29) (xs := ((o.set i (⟨kk, ⟨kk + 1, e1.msg.from_, e1.msg.term, e1.msg.at_, e1.msg.atTerm, e1.msg.commit, e1.msg.yes, e1.msg.release, e1.msg.part, e1.msg.bytes, ⟨e1.msg.cmd.kind, e1.msg.cmd.release, e1.msg.cmd.node, e1.msg.cmd.size, e1.msg.cmd.digest⟩, e1.msg.entries⟩⟩ : Out)).map encOut)) (xs' := ((o.set i (⟨kk, ⟨kk + 1, kk + 2, e1.msg.term, e1.msg.at_, e1.msg.atTerm, e1.msg.commit, e1.msg.yes, e1.msg.release, e1.msg.part, e1.msg.bytes, ⟨e1.msg.cmd.kind, e1.msg.cmd.release, e1.msg.cmd.node, e1.msg.cmd.size, e1.msg.cmd.digest⟩, e1.msg.entries⟩⟩ : Out)).map encOut)) (ys := [.int .i64 (kk + 2)]) (v := .int .i64 (kk + 2)) (encOut (⟨kk, ⟨kk + 1, e1.msg.from_, e1.msg.term, e1.msg.at_, e1.msg.atTerm, e1.msg.commit, e1.msg.yes, e1.msg.release, e1.msg.part, e1.msg.bytes, ⟨e1.msg.cmd.kind, e1.msg.cmd.release, e1.msg.cmd.node, e1.msg.cmd.size, e1.msg.cmd.digest⟩, e1.msg.entries⟩⟩ : Out)) (encOut (⟨kk, ⟨kk + 1, kk + 2, e1.msg.term, e1.msg.at_, e1.msg.atTerm, e1.msg.commit, e1.msg.yes, e1.msg.release, e1.msg.part, e1.msg.bytes, ⟨e1.msg.cmd.kind, e1.msg.cmd.release, e1.msg.cmd.node, e1.msg.cmd.size, e1.msg.cmd.digest⟩, e1.msg.entries⟩⟩ : Out)) (by kernel_rfl) (by kernel_rfl) (by kernel_rfl) (by kernel_rfl) (by kernel_rfl) (mapGet (setGet he1)) (by kernel_rfl) setSetV ?_
    refine At.done rfl ?_
    refine AW.seq ?_
    refine AW.region (At.start ?_)
    refine At.auto 2 (by kernel_rfl) ?_
    refine At.say 34 (.int .i64 (IntKind.i64.wrap ((kk + 2) + 1))) (.int .i64 (kk + 3)) (by kernel_rfl) (sayJ _ (by omega) (by omega)) ?_
    refine At.auto 1 (by kernel_rfl) ?_
    refine At.done rfl ?_
    refine AW.seq ?_
    refine AW.region (At.start ?_)
    refine At.auto 3 (by kernel_rfl) ?_
    refine At.idxRef (t := 29) (d := 38) (x := .tmp 35) (y := .tmp 36) (j := 0) (xs := ((o.set i (⟨kk, ⟨kk + 1, kk + 2, e1.msg.term, e1.msg.at_, e1.msg.atTerm, e1.msg.commit, e1.msg.yes, e1.msg.release, e1.msg.part, e1.msg.bytes, ⟨e1.msg.cmd.kind, e1.msg.cmd.release, e1.msg.cmd.node, e1.msg.cmd.size, e1.msg.cmd.digest⟩, e1.msg.entries⟩⟩ : Out)).map encOut)) (kd := .i64) (i := (i : Int)) (e := 76) (es := 17) (by kernel_rfl) (by kernel_rfl) (by kernel_rfl) (by kernel_rfl) (by kernel_rfl) (by omega) (by first | omega | (simp only [List.length_map, List.length_append, List.length_take, List.length_drop, List.length_replicate, List.length_set, List.length_cons, List.length_nil]; omega)) ?_
    refine At.auto 2 (by kernel_rfl) ?_
    refine At.stEl (t := 3) (i := 0) (e := 76) (es := 17) (j := i) (off := 3) (x := .tmp 40) (y := .tmp 37) (xs := ((o.set i (⟨kk, ⟨kk + 1, kk + 2, e1.msg.term, e1.msg.at_, e1.msg.atTerm, e1.msg.commit, e1.msg.yes, e1.msg.release, e1.msg.part, e1.msg.bytes, ⟨e1.msg.cmd.kind, e1.msg.cmd.release, e1.msg.cmd.node, e1.msg.cmd.size, e1.msg.cmd.digest⟩, e1.msg.entries⟩⟩ : Out)).map encOut)) (xs' := ((o.set i (⟨kk, ⟨kk + 1, kk + 2, kk + 3, e1.msg.at_, e1.msg.atTerm, e1.msg.commit, e1.msg.yes, e1.msg.release, e1.msg.part, e1.msg.bytes, ⟨e1.msg.cmd.kind, e1.msg.cmd.release, e1.msg.cmd.node, e1.msg.cmd.size, e1.msg.cmd.digest⟩, e1.msg.entries⟩⟩ : Out)).map encOut)) (ys := [.int .i64 (kk + 3)]) (v := .int .i64 (kk + 3)) (encOut (⟨kk, ⟨kk + 1, kk + 2, e1.msg.term, e1.msg.at_, e1.msg.atTerm, e1.msg.commit, e1.msg.yes, e1.msg.release, e1.msg.part, e1.msg.bytes, ⟨e1.msg.cmd.kind, e1.msg.cmd.release, e1.msg.cmd.node, e1.msg.cmd.size, e1.msg.cmd.digest⟩, e1.msg.entries⟩⟩ : Out)) (encOut (⟨kk, ⟨kk + 1, kk + 2, kk + 3, e1.msg.at_, e1.msg.atTerm, e1.msg.commit, e1.msg.yes, e1.msg.release, e1.msg.part, e1.msg.bytes, ⟨e1.msg.cmd.kind, e1.msg.cmd.release, e1.msg.cmd.node, e1.msg.cmd.size, e1.msg.cmd.digest⟩, e1.msg.entries⟩⟩ : Out)) (by kernel_rfl) (by kernel_rfl) (by kernel_rfl) (by kernel_rfl) (by kernel_rfl) (mapGet (setGet he1)) (by kernel_rfl) setSetV ?_
    refine At.done rfl ?_
    refine AW.seq ?_
    refine AW.region (At.start ?_)
    refine At.auto 2 (by kernel_rfl) ?_
    refine At.say 42 (.int .i64 (IntKind.i64.wrap ((kk + 3) + 1))) (.int .i64 (kk + 4)) (by kernel_rfl) (sayJ _ (by omega) (by omega)) ?_
    refine At.auto 1 (by kernel_rfl) ?_
    refine At.done rfl ?_
    refine AW.seq ?_
    refine AW.region (At.start ?_)
    refine At.auto 3 (by kernel_rfl) ?_
    refine At.idxRef (t := 29) (d := 46) (x := .tmp 43) (y := .tmp 44) (j := 0) (xs := ((o.set i (⟨kk, ⟨kk + 1, kk + 2, kk + 3, e1.msg.at_, e1.msg.atTerm, e1.msg.commit, e1.msg.yes, e1.msg.release, e1.msg.part, e1.msg.bytes, ⟨e1.msg.cmd.kind, e1.msg.cmd.release, e1.msg.cmd.node, e1.msg.cmd.size, e1.msg.cmd.digest⟩, e1.msg.entries⟩⟩ : Out)).map encOut)) (kd := .i64) (i := (i : Int)) (e := 76) (es := 17) (by kernel_rfl) (by kernel_rfl) (by kernel_rfl) (by kernel_rfl) (by kernel_rfl) (by omega) (by first | omega | (simp only [List.length_map, List.length_append, List.length_take, List.length_drop, List.length_replicate, List.length_set, List.length_cons, List.length_nil]; omega)) ?_
    refine At.auto 2 (by kernel_rfl) ?_
    refine At.stEl (t := 3) (i := 0) (e := 76) (es := 17) (j := i) (off := 4) (x := .tmp 48) (y := .tmp 45) (xs := ((o.set i (⟨kk, ⟨kk + 1, kk + 2, kk + 3, e1.msg.at_, e1.msg.atTerm, e1.msg.commit, e1.msg.yes, e1.msg.release, e1.msg.part, e1.msg.bytes, ⟨e1.msg.cmd.kind, e1.msg.cmd.release, e1.msg.cmd.node, e1.msg.cmd.size, e1.msg.cmd.digest⟩, e1.msg.entries⟩⟩ : Out)).map encOut)) (xs' := ((o.set i (⟨kk, ⟨kk + 1, kk + 2, kk + 3, kk + 4, e1.msg.atTerm, e1.msg.commit, e1.msg.yes, e1.msg.release, e1.msg.part, e1.msg.bytes, ⟨e1.msg.cmd.kind, e1.msg.cmd.release, e1.msg.cmd.node, e1.msg.cmd.size, e1.msg.cmd.digest⟩, e1.msg.entries⟩⟩ : Out)).map encOut)) (ys := [.int .i64 (kk + 4)]) (v := .int .i64 (kk + 4)) (encOut (⟨kk, ⟨kk + 1, kk + 2, kk + 3, e1.msg.at_, e1.msg.atTerm, e1.msg.commit, e1.msg.yes, e1.msg.release, e1.msg.part, e1.msg.bytes, ⟨e1.msg.cmd.kind, e1.msg.cmd.release, e1.msg.cmd.node, e1.msg.cmd.size, e1.msg.cmd.digest⟩, e1.msg.entries⟩⟩ : Out)) (encOut (⟨kk, ⟨kk + 1, kk + 2, kk + 3, kk + 4, e1.msg.atTerm, e1.msg.commit, e1.msg.yes, e1.msg.release, e1.msg.part, e1.msg.bytes, ⟨e1.msg.cmd.kind, e1.msg.cmd.release, e1.msg.cmd.node, e1.msg.cmd.size, e1.msg.cmd.digest⟩, e1.msg.entries⟩⟩ : Out)) (by kernel_rfl) (by kernel_rfl) (by kernel_rfl) (by kernel_rfl) (by kernel_rfl) (mapGet (setGet he1)) (by kernel_rfl) setSetV ?_
    refine At.done rfl ?_
    refine AW.seq ?_
    refine AW.region (At.start ?_)
    refine At.auto 2 (by kernel_rfl) ?_
    refine At.say 50 (.int .i64 (IntKind.i64.wrap ((kk + 4) + 1))) (.int .i64 (kk + 5)) (by kernel_rfl) (sayJ _ (by omega) (by omega)) ?_
    refine At.auto 1 (by kernel_rfl) ?_
    refine At.done rfl ?_
    refine AW.seq ?_
    refine AW.region (At.start ?_)
    refine At.auto 3 (by kernel_rfl) ?_
    refine At.idxRef (t := 29) (d := 54) (x := .tmp 51) (y := .tmp 52) (j := 0) (xs := ((o.set i (⟨kk, ⟨kk + 1, kk + 2, kk + 3, kk + 4, e1.msg.atTerm, e1.msg.commit, e1.msg.yes, e1.msg.release, e1.msg.part, e1.msg.bytes, ⟨e1.msg.cmd.kind, e1.msg.cmd.release, e1.msg.cmd.node, e1.msg.cmd.size, e1.msg.cmd.digest⟩, e1.msg.entries⟩⟩ : Out)).map encOut)) (kd := .i64) (i := (i : Int)) (e := 76) (es := 17) (by kernel_rfl) (by kernel_rfl) (by kernel_rfl) (by kernel_rfl) (by kernel_rfl) (by omega) (by first | omega | (simp only [List.length_map, List.length_append, List.length_take, List.length_drop, List.length_replicate, List.length_set, List.length_cons, List.length_nil]; omega)) ?_
    refine At.auto 2 (by kernel_rfl) ?_
    refine At.stEl (t := 3) (i := 0) (e := 76) (es := 17) (j := i) (off := 5) (x := .tmp 56) (y := .tmp 53) (xs := ((o.set i (⟨kk, ⟨kk + 1, kk + 2, kk + 3, kk + 4, e1.msg.atTerm, e1.msg.commit, e1.msg.yes, e1.msg.release, e1.msg.part, e1.msg.bytes, ⟨e1.msg.cmd.kind, e1.msg.cmd.release, e1.msg.cmd.node, e1.msg.cmd.size, e1.msg.cmd.digest⟩, e1.msg.entries⟩⟩ : Out)).map encOut)) (xs' := ((o.set i (⟨kk, ⟨kk + 1, kk + 2, kk + 3, kk + 4, kk + 5, e1.msg.commit, e1.msg.yes, e1.msg.release, e1.msg.part, e1.msg.bytes, ⟨e1.msg.cmd.kind, e1.msg.cmd.release, e1.msg.cmd.node, e1.msg.cmd.size, e1.msg.cmd.digest⟩, e1.msg.entries⟩⟩ : Out)).map encOut)) (ys := [.int .i64 (kk + 5)]) (v := .int .i64 (kk + 5)) (encOut (⟨kk, ⟨kk + 1, kk + 2, kk + 3, kk + 4, e1.msg.atTerm, e1.msg.commit, e1.msg.yes, e1.msg.release, e1.msg.part, e1.msg.bytes, ⟨e1.msg.cmd.kind, e1.msg.cmd.release, e1.msg.cmd.node, e1.msg.cmd.size, e1.msg.cmd.digest⟩, e1.msg.entries⟩⟩ : Out)) (encOut (⟨kk, ⟨kk + 1, kk + 2, kk + 3, kk + 4, kk + 5, e1.msg.commit, e1.msg.yes, e1.msg.release, e1.msg.part, e1.msg.bytes, ⟨e1.msg.cmd.kind, e1.msg.cmd.release, e1.msg.cmd.node, e1.msg.cmd.size, e1.msg.cmd.digest⟩, e1.msg.entries⟩⟩ : Out)) (by kernel_rfl) (by kernel_rfl) (by kernel_rfl) (by kernel_rfl) (by kernel_rfl) (mapGet (setGet he1)) (by kernel_rfl) setSetV ?_
    refine At.done rfl ?_
    refine AW.seq ?_
    refine AW.region (At.start ?_)
    refine At.auto 2 (by kernel_rfl) ?_
    refine At.say 58 (.int .i64 (IntKind.i64.wrap ((kk + 5) + 1))) (.int .i64 (kk + 6)) (by kernel_rfl) (sayJ _ (by omega) (by omega)) ?_
    refine At.auto 1 (by kernel_rfl) ?_
    refine At.done rfl ?_
    refine AW.seq ?_
    refine AW.region (At.start ?_)
    refine At.auto 3 (by kernel_rfl) ?_
    refine At.idxRef (t := 29) (d := 62) (x := .tmp 59) (y := .tmp 60) (j := 0) (xs := ((o.set i (⟨kk, ⟨kk + 1, kk + 2, kk + 3, kk + 4, kk + 5, e1.msg.commit, e1.msg.yes, e1.msg.release, e1.msg.part, e1.msg.bytes, ⟨e1.msg.cmd.kind, e1.msg.cmd.release, e1.msg.cmd.node, e1.msg.cmd.size, e1.msg.cmd.digest⟩, e1.msg.entries⟩⟩ : Out)).map encOut)) (kd := .i64) (i := (i : Int)) (e := 76) (es := 17) (by kernel_rfl) (by kernel_rfl) (by kernel_rfl) (by kernel_rfl) (by kernel_rfl) (by omega) (by first | omega | (simp only [List.length_map, List.length_append, List.length_take, List.length_drop, List.length_replicate, List.length_set, List.length_cons, List.length_nil]; omega)) ?_
    refine At.auto 2 (by kernel_rfl) ?_
    refine At.stEl (t := 3) (i := 0) (e := 76) (es := 17) (j := i) (off := 6) (x := .tmp 64) (y := .tmp 61) (xs := ((o.set i (⟨kk, ⟨kk + 1, kk + 2, kk + 3, kk + 4, kk + 5, e1.msg.commit, e1.msg.yes, e1.msg.release, e1.msg.part, e1.msg.bytes, ⟨e1.msg.cmd.kind, e1.msg.cmd.release, e1.msg.cmd.node, e1.msg.cmd.size, e1.msg.cmd.digest⟩, e1.msg.entries⟩⟩ : Out)).map encOut)) (xs' := ((o.set i (⟨kk, ⟨kk + 1, kk + 2, kk + 3, kk + 4, kk + 5, kk + 6, e1.msg.yes, e1.msg.release, e1.msg.part, e1.msg.bytes, ⟨e1.msg.cmd.kind, e1.msg.cmd.release, e1.msg.cmd.node, e1.msg.cmd.size, e1.msg.cmd.digest⟩, e1.msg.entries⟩⟩ : Out)).map encOut)) (ys := [.int .i64 (kk + 6)]) (v := .int .i64 (kk + 6)) (encOut (⟨kk, ⟨kk + 1, kk + 2, kk + 3, kk + 4, kk + 5, e1.msg.commit, e1.msg.yes, e1.msg.release, e1.msg.part, e1.msg.bytes, ⟨e1.msg.cmd.kind, e1.msg.cmd.release, e1.msg.cmd.node, e1.msg.cmd.size, e1.msg.cmd.digest⟩, e1.msg.entries⟩⟩ : Out)) (encOut (⟨kk, ⟨kk + 1, kk + 2, kk + 3, kk + 4, kk + 5, kk + 6, e1.msg.yes, e1.msg.release, e1.msg.part, e1.msg.bytes, ⟨e1.msg.cmd.kind, e1.msg.cmd.release, e1.msg.cmd.node, e1.msg.cmd.size, e1.msg.cmd.digest⟩, e1.msg.entries⟩⟩ : Out)) (by kernel_rfl) (by kernel_rfl) (by kernel_rfl) (by kernel_rfl) (by kernel_rfl) (mapGet (setGet he1)) (by kernel_rfl) setSetV ?_
    refine At.done rfl ?_
    refine AW.seq ?_
    refine AW.region (At.start ?_)
    refine At.auto 2 (by kernel_rfl) ?_
    refine At.say 66 (.int .i64 (IntKind.i64.wrap ((kk + 6) + 1))) (.int .i64 (kk + 7)) (by kernel_rfl) (sayJ _ (by omega) (by omega)) ?_
    refine At.auto 1 (by kernel_rfl) ?_
    refine At.done rfl ?_
    refine AW.seq ?_
    refine AW.region (At.start ?_)
    refine At.auto 3 (by kernel_rfl) ?_
    refine At.div (t := 3) (u := 3) (d := 70) (op := .rem) (x := .tmp 69) (y := .const (.int .i64 3)) (kd := .i64) (a := kk + 7) (b := 3) (by kernel_rfl) (by kernel_rfl) (by kernel_rfl) (by kernel_rfl) (by omega) (.int .i64 ((kk + 7).tmod 3)) (.inr ⟨rfl, rfl⟩) ?_
    refine At.say 70 (.int .i64 ((kk + 7).tmod 3)) (.int .i64 ((kk + 7) % 3)) (by kernel_rfl) (sayRem (by omega)) ?_
    refine At.auto 1 (by kernel_rfl) ?_
    refine At.idxRef (t := 29) (d := 72) (x := .tmp 67) (y := .tmp 68) (j := 0) (xs := ((o.set i (⟨kk, ⟨kk + 1, kk + 2, kk + 3, kk + 4, kk + 5, kk + 6, e1.msg.yes, e1.msg.release, e1.msg.part, e1.msg.bytes, ⟨e1.msg.cmd.kind, e1.msg.cmd.release, e1.msg.cmd.node, e1.msg.cmd.size, e1.msg.cmd.digest⟩, e1.msg.entries⟩⟩ : Out)).map encOut)) (kd := .i64) (i := (i : Int)) (e := 76) (es := 17) (by kernel_rfl) (by kernel_rfl) (by kernel_rfl) (by kernel_rfl) (by kernel_rfl) (by omega) (by first | omega | (simp only [List.length_map, List.length_append, List.length_take, List.length_drop, List.length_replicate, List.length_set, List.length_cons, List.length_nil]; omega)) ?_
    refine At.auto 2 (by kernel_rfl) ?_
    refine At.stEl (t := 4) (i := 0) (e := 76) (es := 17) (j := i) (off := 7) (x := .tmp 74) (y := .tmp 71) (xs := ((o.set i (⟨kk, ⟨kk + 1, kk + 2, kk + 3, kk + 4, kk + 5, kk + 6, e1.msg.yes, e1.msg.release, e1.msg.part, e1.msg.bytes, ⟨e1.msg.cmd.kind, e1.msg.cmd.release, e1.msg.cmd.node, e1.msg.cmd.size, e1.msg.cmd.digest⟩, e1.msg.entries⟩⟩ : Out)).map encOut)) (xs' := ((o.set i (⟨kk, ⟨kk + 1, kk + 2, kk + 3, kk + 4, kk + 5, kk + 6, ((kk + 7) % 3) == 0, e1.msg.release, e1.msg.part, e1.msg.bytes, ⟨e1.msg.cmd.kind, e1.msg.cmd.release, e1.msg.cmd.node, e1.msg.cmd.size, e1.msg.cmd.digest⟩, e1.msg.entries⟩⟩ : Out)).map encOut)) (ys := [.bool (((kk + 7) % 3) == 0)]) (v := .bool (((kk + 7) % 3) == 0)) (encOut (⟨kk, ⟨kk + 1, kk + 2, kk + 3, kk + 4, kk + 5, kk + 6, e1.msg.yes, e1.msg.release, e1.msg.part, e1.msg.bytes, ⟨e1.msg.cmd.kind, e1.msg.cmd.release, e1.msg.cmd.node, e1.msg.cmd.size, e1.msg.cmd.digest⟩, e1.msg.entries⟩⟩ : Out)) (encOut (⟨kk, ⟨kk + 1, kk + 2, kk + 3, kk + 4, kk + 5, kk + 6, ((kk + 7) % 3) == 0, e1.msg.release, e1.msg.part, e1.msg.bytes, ⟨e1.msg.cmd.kind, e1.msg.cmd.release, e1.msg.cmd.node, e1.msg.cmd.size, e1.msg.cmd.digest⟩, e1.msg.entries⟩⟩ : Out)) (by kernel_rfl) (by kernel_rfl) (by kernel_rfl) (by kernel_rfl) (by kernel_rfl) (mapGet (setGet he1)) (by kernel_rfl) setSetV ?_
    refine At.done rfl ?_
    refine AW.seq ?_
    refine AW.region (At.start ?_)
    refine At.auto 2 (by kernel_rfl) ?_
    refine At.say 76 (.int .i64 (IntKind.i64.wrap ((kk + 7) + 1))) (.int .i64 (kk + 8)) (by kernel_rfl) (sayJ _ (by omega) (by omega)) ?_
    refine At.auto 1 (by kernel_rfl) ?_
    refine At.done rfl ?_
    refine AW.seq ?_
    refine AW.region (At.start ?_)
    refine At.auto 3 (by kernel_rfl) ?_
    refine At.idxRef (t := 29) (d := 80) (x := .tmp 77) (y := .tmp 78) (j := 0) (xs := ((o.set i (⟨kk, ⟨kk + 1, kk + 2, kk + 3, kk + 4, kk + 5, kk + 6, ((kk + 7) % 3) == 0, e1.msg.release, e1.msg.part, e1.msg.bytes, ⟨e1.msg.cmd.kind, e1.msg.cmd.release, e1.msg.cmd.node, e1.msg.cmd.size, e1.msg.cmd.digest⟩, e1.msg.entries⟩⟩ : Out)).map encOut)) (kd := .i64) (i := (i : Int)) (e := 76) (es := 17) (by kernel_rfl) (by kernel_rfl) (by kernel_rfl) (by kernel_rfl) (by kernel_rfl) (by omega) (by first | omega | (simp only [List.length_map, List.length_append, List.length_take, List.length_drop, List.length_replicate, List.length_set, List.length_cons, List.length_nil]; omega)) ?_
    refine At.auto 2 (by kernel_rfl) ?_
    refine At.stEl (t := 3) (i := 0) (e := 76) (es := 17) (j := i) (off := 8) (x := .tmp 82) (y := .tmp 79) (xs := ((o.set i (⟨kk, ⟨kk + 1, kk + 2, kk + 3, kk + 4, kk + 5, kk + 6, ((kk + 7) % 3) == 0, e1.msg.release, e1.msg.part, e1.msg.bytes, ⟨e1.msg.cmd.kind, e1.msg.cmd.release, e1.msg.cmd.node, e1.msg.cmd.size, e1.msg.cmd.digest⟩, e1.msg.entries⟩⟩ : Out)).map encOut)) (xs' := ((o.set i (⟨kk, ⟨kk + 1, kk + 2, kk + 3, kk + 4, kk + 5, kk + 6, ((kk + 7) % 3) == 0, kk + 8, e1.msg.part, e1.msg.bytes, ⟨e1.msg.cmd.kind, e1.msg.cmd.release, e1.msg.cmd.node, e1.msg.cmd.size, e1.msg.cmd.digest⟩, e1.msg.entries⟩⟩ : Out)).map encOut)) (ys := [.int .i64 (kk + 8)]) (v := .int .i64 (kk + 8)) (encOut (⟨kk, ⟨kk + 1, kk + 2, kk + 3, kk + 4, kk + 5, kk + 6, ((kk + 7) % 3) == 0, e1.msg.release, e1.msg.part, e1.msg.bytes, ⟨e1.msg.cmd.kind, e1.msg.cmd.release, e1.msg.cmd.node, e1.msg.cmd.size, e1.msg.cmd.digest⟩, e1.msg.entries⟩⟩ : Out)) (encOut (⟨kk, ⟨kk + 1, kk + 2, kk + 3, kk + 4, kk + 5, kk + 6, ((kk + 7) % 3) == 0, kk + 8, e1.msg.part, e1.msg.bytes, ⟨e1.msg.cmd.kind, e1.msg.cmd.release, e1.msg.cmd.node, e1.msg.cmd.size, e1.msg.cmd.digest⟩, e1.msg.entries⟩⟩ : Out)) (by kernel_rfl) (by kernel_rfl) (by kernel_rfl) (by kernel_rfl) (by kernel_rfl) (mapGet (setGet he1)) (by kernel_rfl) setSetV ?_
    refine At.done rfl ?_
    refine AW.seq ?_
    refine AW.region (At.start ?_)
    refine At.auto 2 (by kernel_rfl) ?_
    refine At.say 84 (.int .i64 (IntKind.i64.wrap ((kk + 8) + 1))) (.int .i64 (kk + 9)) (by kernel_rfl) (sayJ _ (by omega) (by omega)) ?_
    refine At.auto 1 (by kernel_rfl) ?_
    refine At.done rfl ?_
    refine AW.seq ?_
    refine AW.region (At.start ?_)
    refine At.auto 3 (by kernel_rfl) ?_
    refine At.idxRef (t := 29) (d := 88) (x := .tmp 85) (y := .tmp 86) (j := 0) (xs := ((o.set i (⟨kk, ⟨kk + 1, kk + 2, kk + 3, kk + 4, kk + 5, kk + 6, ((kk + 7) % 3) == 0, kk + 8, e1.msg.part, e1.msg.bytes, ⟨e1.msg.cmd.kind, e1.msg.cmd.release, e1.msg.cmd.node, e1.msg.cmd.size, e1.msg.cmd.digest⟩, e1.msg.entries⟩⟩ : Out)).map encOut)) (kd := .i64) (i := (i : Int)) (e := 76) (es := 17) (by kernel_rfl) (by kernel_rfl) (by kernel_rfl) (by kernel_rfl) (by kernel_rfl) (by omega) (by first | omega | (simp only [List.length_map, List.length_append, List.length_take, List.length_drop, List.length_replicate, List.length_set, List.length_cons, List.length_nil]; omega)) ?_
    refine At.auto 2 (by kernel_rfl) ?_
    refine At.stEl (t := 3) (i := 0) (e := 76) (es := 17) (j := i) (off := 9) (x := .tmp 90) (y := .tmp 87) (xs := ((o.set i (⟨kk, ⟨kk + 1, kk + 2, kk + 3, kk + 4, kk + 5, kk + 6, ((kk + 7) % 3) == 0, kk + 8, e1.msg.part, e1.msg.bytes, ⟨e1.msg.cmd.kind, e1.msg.cmd.release, e1.msg.cmd.node, e1.msg.cmd.size, e1.msg.cmd.digest⟩, e1.msg.entries⟩⟩ : Out)).map encOut)) (xs' := ((o.set i (⟨kk, ⟨kk + 1, kk + 2, kk + 3, kk + 4, kk + 5, kk + 6, ((kk + 7) % 3) == 0, kk + 8, kk + 9, e1.msg.bytes, ⟨e1.msg.cmd.kind, e1.msg.cmd.release, e1.msg.cmd.node, e1.msg.cmd.size, e1.msg.cmd.digest⟩, e1.msg.entries⟩⟩ : Out)).map encOut)) (ys := [.int .i64 (kk + 9)]) (v := .int .i64 (kk + 9)) (encOut (⟨kk, ⟨kk + 1, kk + 2, kk + 3, kk + 4, kk + 5, kk + 6, ((kk + 7) % 3) == 0, kk + 8, e1.msg.part, e1.msg.bytes, ⟨e1.msg.cmd.kind, e1.msg.cmd.release, e1.msg.cmd.node, e1.msg.cmd.size, e1.msg.cmd.digest⟩, e1.msg.entries⟩⟩ : Out)) (encOut (⟨kk, ⟨kk + 1, kk + 2, kk + 3, kk + 4, kk + 5, kk + 6, ((kk + 7) % 3) == 0, kk + 8, kk + 9, e1.msg.bytes, ⟨e1.msg.cmd.kind, e1.msg.cmd.release, e1.msg.cmd.node, e1.msg.cmd.size, e1.msg.cmd.digest⟩, e1.msg.entries⟩⟩ : Out)) (by kernel_rfl) (by kernel_rfl) (by kernel_rfl) (by kernel_rfl) (by kernel_rfl) (mapGet (setGet he1)) (by kernel_rfl) setSetV ?_
    refine At.done rfl ?_
    refine AW.seq ?_
    refine AW.region (At.start ?_)
    refine At.auto 2 (by kernel_rfl) ?_
    refine At.say 92 (.int .i64 (IntKind.i64.wrap ((kk + 9) + 1))) (.int .i64 (kk + 10)) (by kernel_rfl) (sayJ _ (by omega) (by omega)) ?_
    refine At.auto 1 (by kernel_rfl) ?_
    refine At.done rfl ?_
    refine AW.seq ?_
    refine AW.region (At.start ?_)
    refine At.auto 3 (by kernel_rfl) ?_
    refine At.call (laws_markText_spec  (kk + 10) (by first | omega | (dsimp only; omega) | (simp only [List.length_map, List.length_append, List.length_take, List.length_drop, List.length_replicate, List.length_set, List.length_cons, List.length_nil]; omega))) Try.call48 true [] [] [] (by kernel_rfl) (by kernel_rfl) (by kernel_rfl) (by kernel_rfl) (by kernel_rfl) trivial ?_
    refine At.idxRef (t := 29) (d := 97) (x := .tmp 93) (y := .tmp 94) (j := 0) (xs := ((o.set i (⟨kk, ⟨kk + 1, kk + 2, kk + 3, kk + 4, kk + 5, kk + 6, ((kk + 7) % 3) == 0, kk + 8, kk + 9, e1.msg.bytes, ⟨e1.msg.cmd.kind, e1.msg.cmd.release, e1.msg.cmd.node, e1.msg.cmd.size, e1.msg.cmd.digest⟩, e1.msg.entries⟩⟩ : Out)).map encOut)) (kd := .i64) (i := (i : Int)) (e := 76) (es := 17) (by kernel_rfl) (by kernel_rfl) (by kernel_rfl) (by kernel_rfl) (by kernel_rfl) (by omega) (by first | omega | (simp only [List.length_map, List.length_append, List.length_take, List.length_drop, List.length_replicate, List.length_set, List.length_cons, List.length_nil]; omega)) ?_
    refine At.auto 2 (by kernel_rfl) ?_
    refine At.stEl (t := 9) (i := 0) (e := 76) (es := 17) (j := i) (off := 10) (x := .tmp 99) (y := .tmp 96) (xs := ((o.set i (⟨kk, ⟨kk + 1, kk + 2, kk + 3, kk + 4, kk + 5, kk + 6, ((kk + 7) % 3) == 0, kk + 8, kk + 9, e1.msg.bytes, ⟨e1.msg.cmd.kind, e1.msg.cmd.release, e1.msg.cmd.node, e1.msg.cmd.size, e1.msg.cmd.digest⟩, e1.msg.entries⟩⟩ : Out)).map encOut)) (xs' := ((o.set i (⟨kk, ⟨kk + 1, kk + 2, kk + 3, kk + 4, kk + 5, kk + 6, ((kk + 7) % 3) == 0, kk + 8, kk + 9, markT (kk + 10), ⟨e1.msg.cmd.kind, e1.msg.cmd.release, e1.msg.cmd.node, e1.msg.cmd.size, e1.msg.cmd.digest⟩, e1.msg.entries⟩⟩ : Out)).map encOut)) (ys := [.str (markT (kk + 10))]) (v := .str (markT (kk + 10))) (encOut (⟨kk, ⟨kk + 1, kk + 2, kk + 3, kk + 4, kk + 5, kk + 6, ((kk + 7) % 3) == 0, kk + 8, kk + 9, e1.msg.bytes, ⟨e1.msg.cmd.kind, e1.msg.cmd.release, e1.msg.cmd.node, e1.msg.cmd.size, e1.msg.cmd.digest⟩, e1.msg.entries⟩⟩ : Out)) (encOut (⟨kk, ⟨kk + 1, kk + 2, kk + 3, kk + 4, kk + 5, kk + 6, ((kk + 7) % 3) == 0, kk + 8, kk + 9, markT (kk + 10), ⟨e1.msg.cmd.kind, e1.msg.cmd.release, e1.msg.cmd.node, e1.msg.cmd.size, e1.msg.cmd.digest⟩, e1.msg.entries⟩⟩ : Out)) (by kernel_rfl) (by kernel_rfl) (by kernel_rfl) (by kernel_rfl) (by kernel_rfl) (mapGet (setGet he1)) (by kernel_rfl) setSetV ?_
    refine At.done rfl ?_
    refine AW.seq ?_
    refine AW.region (At.start ?_)
    refine At.auto 2 (by kernel_rfl) ?_
    refine At.say 101 (.int .i64 (IntKind.i64.wrap ((kk + 10) + 1))) (.int .i64 (kk + 11)) (by kernel_rfl) (sayJ _ (by omega) (by omega)) ?_
    refine At.auto 1 (by kernel_rfl) ?_
    refine At.done rfl ?_
    refine AW.seq ?_
    refine AW.region (At.start ?_)
    refine At.auto 3 (by kernel_rfl) ?_
    refine At.idxRef (t := 29) (d := 105) (x := .tmp 102) (y := .tmp 103) (j := 0) (xs := ((o.set i (⟨kk, ⟨kk + 1, kk + 2, kk + 3, kk + 4, kk + 5, kk + 6, ((kk + 7) % 3) == 0, kk + 8, kk + 9, markT (kk + 10), ⟨e1.msg.cmd.kind, e1.msg.cmd.release, e1.msg.cmd.node, e1.msg.cmd.size, e1.msg.cmd.digest⟩, e1.msg.entries⟩⟩ : Out)).map encOut)) (kd := .i64) (i := (i : Int)) (e := 76) (es := 17) (by kernel_rfl) (by kernel_rfl) (by kernel_rfl) (by kernel_rfl) (by kernel_rfl) (by omega) (by first | omega | (simp only [List.length_map, List.length_append, List.length_take, List.length_drop, List.length_replicate, List.length_set, List.length_cons, List.length_nil]; omega)) ?_
    refine At.auto 3 (by kernel_rfl) ?_
    refine At.stEl (t := 3) (i := 0) (e := 76) (es := 17) (j := i) (off := 11) (x := .tmp 108) (y := .tmp 104) (xs := ((o.set i (⟨kk, ⟨kk + 1, kk + 2, kk + 3, kk + 4, kk + 5, kk + 6, ((kk + 7) % 3) == 0, kk + 8, kk + 9, markT (kk + 10), ⟨e1.msg.cmd.kind, e1.msg.cmd.release, e1.msg.cmd.node, e1.msg.cmd.size, e1.msg.cmd.digest⟩, e1.msg.entries⟩⟩ : Out)).map encOut)) (xs' := ((o.set i (⟨kk, ⟨kk + 1, kk + 2, kk + 3, kk + 4, kk + 5, kk + 6, ((kk + 7) % 3) == 0, kk + 8, kk + 9, markT (kk + 10), ⟨kk + 11, e1.msg.cmd.release, e1.msg.cmd.node, e1.msg.cmd.size, e1.msg.cmd.digest⟩, e1.msg.entries⟩⟩ : Out)).map encOut)) (ys := [.int .i64 (kk + 11)]) (v := .int .i64 (kk + 11)) (encOut (⟨kk, ⟨kk + 1, kk + 2, kk + 3, kk + 4, kk + 5, kk + 6, ((kk + 7) % 3) == 0, kk + 8, kk + 9, markT (kk + 10), ⟨e1.msg.cmd.kind, e1.msg.cmd.release, e1.msg.cmd.node, e1.msg.cmd.size, e1.msg.cmd.digest⟩, e1.msg.entries⟩⟩ : Out)) (encOut (⟨kk, ⟨kk + 1, kk + 2, kk + 3, kk + 4, kk + 5, kk + 6, ((kk + 7) % 3) == 0, kk + 8, kk + 9, markT (kk + 10), ⟨kk + 11, e1.msg.cmd.release, e1.msg.cmd.node, e1.msg.cmd.size, e1.msg.cmd.digest⟩, e1.msg.entries⟩⟩ : Out)) (by kernel_rfl) (by kernel_rfl) (by kernel_rfl) (by kernel_rfl) (by kernel_rfl) (mapGet (setGet he1)) (by kernel_rfl) setSetV ?_
    refine At.done rfl ?_
    refine AW.seq ?_
    refine AW.region (At.start ?_)
    refine At.auto 2 (by kernel_rfl) ?_
    refine At.say 110 (.int .i64 (IntKind.i64.wrap ((kk + 11) + 1))) (.int .i64 (kk + 12)) (by kernel_rfl) (sayJ _ (by omega) (by omega)) ?_
    refine At.auto 1 (by kernel_rfl) ?_
    refine At.done rfl ?_
    refine AW.seq ?_
    refine AW.region (At.start ?_)
    refine At.auto 3 (by kernel_rfl) ?_
    refine At.idxRef (t := 29) (d := 114) (x := .tmp 111) (y := .tmp 112) (j := 0) (xs := ((o.set i (⟨kk, ⟨kk + 1, kk + 2, kk + 3, kk + 4, kk + 5, kk + 6, ((kk + 7) % 3) == 0, kk + 8, kk + 9, markT (kk + 10), ⟨kk + 11, e1.msg.cmd.release, e1.msg.cmd.node, e1.msg.cmd.size, e1.msg.cmd.digest⟩, e1.msg.entries⟩⟩ : Out)).map encOut)) (kd := .i64) (i := (i : Int)) (e := 76) (es := 17) (by kernel_rfl) (by kernel_rfl) (by kernel_rfl) (by kernel_rfl) (by kernel_rfl) (by omega) (by first | omega | (simp only [List.length_map, List.length_append, List.length_take, List.length_drop, List.length_replicate, List.length_set, List.length_cons, List.length_nil]; omega)) ?_
    refine At.auto 3 (by kernel_rfl) ?_
    refine At.stEl (t := 3) (i := 0) (e := 76) (es := 17) (j := i) (off := 12) (x := .tmp 117) (y := .tmp 113) (xs := ((o.set i (⟨kk, ⟨kk + 1, kk + 2, kk + 3, kk + 4, kk + 5, kk + 6, ((kk + 7) % 3) == 0, kk + 8, kk + 9, markT (kk + 10), ⟨kk + 11, e1.msg.cmd.release, e1.msg.cmd.node, e1.msg.cmd.size, e1.msg.cmd.digest⟩, e1.msg.entries⟩⟩ : Out)).map encOut)) (xs' := ((o.set i (⟨kk, ⟨kk + 1, kk + 2, kk + 3, kk + 4, kk + 5, kk + 6, ((kk + 7) % 3) == 0, kk + 8, kk + 9, markT (kk + 10), ⟨kk + 11, kk + 12, e1.msg.cmd.node, e1.msg.cmd.size, e1.msg.cmd.digest⟩, e1.msg.entries⟩⟩ : Out)).map encOut)) (ys := [.int .i64 (kk + 12)]) (v := .int .i64 (kk + 12)) (encOut (⟨kk, ⟨kk + 1, kk + 2, kk + 3, kk + 4, kk + 5, kk + 6, ((kk + 7) % 3) == 0, kk + 8, kk + 9, markT (kk + 10), ⟨kk + 11, e1.msg.cmd.release, e1.msg.cmd.node, e1.msg.cmd.size, e1.msg.cmd.digest⟩, e1.msg.entries⟩⟩ : Out)) (encOut (⟨kk, ⟨kk + 1, kk + 2, kk + 3, kk + 4, kk + 5, kk + 6, ((kk + 7) % 3) == 0, kk + 8, kk + 9, markT (kk + 10), ⟨kk + 11, kk + 12, e1.msg.cmd.node, e1.msg.cmd.size, e1.msg.cmd.digest⟩, e1.msg.entries⟩⟩ : Out)) (by kernel_rfl) (by kernel_rfl) (by kernel_rfl) (by kernel_rfl) (by kernel_rfl) (mapGet (setGet he1)) (by kernel_rfl) setSetV ?_
    refine At.done rfl ?_
    refine AW.seq ?_
    refine AW.region (At.start ?_)
    refine At.auto 2 (by kernel_rfl) ?_
    refine At.say 119 (.int .i64 (IntKind.i64.wrap ((kk + 12) + 1))) (.int .i64 (kk + 13)) (by kernel_rfl) (sayJ _ (by omega) (by omega)) ?_
    refine At.auto 1 (by kernel_rfl) ?_
    refine At.done rfl ?_
    refine AW.seq ?_
    refine AW.region (At.start ?_)
    refine At.auto 3 (by kernel_rfl) ?_
    refine At.idxRef (t := 29) (d := 123) (x := .tmp 120) (y := .tmp 121) (j := 0) (xs := ((o.set i (⟨kk, ⟨kk + 1, kk + 2, kk + 3, kk + 4, kk + 5, kk + 6, ((kk + 7) % 3) == 0, kk + 8, kk + 9, markT (kk + 10), ⟨kk + 11, kk + 12, e1.msg.cmd.node, e1.msg.cmd.size, e1.msg.cmd.digest⟩, e1.msg.entries⟩⟩ : Out)).map encOut)) (kd := .i64) (i := (i : Int)) (e := 76) (es := 17) (by kernel_rfl) (by kernel_rfl) (by kernel_rfl) (by kernel_rfl) (by kernel_rfl) (by omega) (by first | omega | (simp only [List.length_map, List.length_append, List.length_take, List.length_drop, List.length_replicate, List.length_set, List.length_cons, List.length_nil]; omega)) ?_
    refine At.auto 3 (by kernel_rfl) ?_
    refine At.stEl (t := 3) (i := 0) (e := 76) (es := 17) (j := i) (off := 13) (x := .tmp 126) (y := .tmp 122) (xs := ((o.set i (⟨kk, ⟨kk + 1, kk + 2, kk + 3, kk + 4, kk + 5, kk + 6, ((kk + 7) % 3) == 0, kk + 8, kk + 9, markT (kk + 10), ⟨kk + 11, kk + 12, e1.msg.cmd.node, e1.msg.cmd.size, e1.msg.cmd.digest⟩, e1.msg.entries⟩⟩ : Out)).map encOut)) (xs' := ((o.set i (⟨kk, ⟨kk + 1, kk + 2, kk + 3, kk + 4, kk + 5, kk + 6, ((kk + 7) % 3) == 0, kk + 8, kk + 9, markT (kk + 10), ⟨kk + 11, kk + 12, kk + 13, e1.msg.cmd.size, e1.msg.cmd.digest⟩, e1.msg.entries⟩⟩ : Out)).map encOut)) (ys := [.int .i64 (kk + 13)]) (v := .int .i64 (kk + 13)) (encOut (⟨kk, ⟨kk + 1, kk + 2, kk + 3, kk + 4, kk + 5, kk + 6, ((kk + 7) % 3) == 0, kk + 8, kk + 9, markT (kk + 10), ⟨kk + 11, kk + 12, e1.msg.cmd.node, e1.msg.cmd.size, e1.msg.cmd.digest⟩, e1.msg.entries⟩⟩ : Out)) (encOut (⟨kk, ⟨kk + 1, kk + 2, kk + 3, kk + 4, kk + 5, kk + 6, ((kk + 7) % 3) == 0, kk + 8, kk + 9, markT (kk + 10), ⟨kk + 11, kk + 12, kk + 13, e1.msg.cmd.size, e1.msg.cmd.digest⟩, e1.msg.entries⟩⟩ : Out)) (by kernel_rfl) (by kernel_rfl) (by kernel_rfl) (by kernel_rfl) (by kernel_rfl) (mapGet (setGet he1)) (by kernel_rfl) setSetV ?_
    refine At.done rfl ?_
    refine AW.seq ?_
    refine AW.region (At.start ?_)
    refine At.auto 2 (by kernel_rfl) ?_
    refine At.say 128 (.int .i64 (IntKind.i64.wrap ((kk + 13) + 1))) (.int .i64 (kk + 14)) (by kernel_rfl) (sayJ _ (by omega) (by omega)) ?_
    refine At.auto 1 (by kernel_rfl) ?_
    refine At.done rfl ?_
    refine AW.seq ?_
    refine AW.region (At.start ?_)
    refine At.auto 3 (by kernel_rfl) ?_
    refine At.idxRef (t := 29) (d := 132) (x := .tmp 129) (y := .tmp 130) (j := 0) (xs := ((o.set i (⟨kk, ⟨kk + 1, kk + 2, kk + 3, kk + 4, kk + 5, kk + 6, ((kk + 7) % 3) == 0, kk + 8, kk + 9, markT (kk + 10), ⟨kk + 11, kk + 12, kk + 13, e1.msg.cmd.size, e1.msg.cmd.digest⟩, e1.msg.entries⟩⟩ : Out)).map encOut)) (kd := .i64) (i := (i : Int)) (e := 76) (es := 17) (by kernel_rfl) (by kernel_rfl) (by kernel_rfl) (by kernel_rfl) (by kernel_rfl) (by omega) (by first | omega | (simp only [List.length_map, List.length_append, List.length_take, List.length_drop, List.length_replicate, List.length_set, List.length_cons, List.length_nil]; omega)) ?_
    refine At.auto 3 (by kernel_rfl) ?_
    refine At.stEl (t := 3) (i := 0) (e := 76) (es := 17) (j := i) (off := 14) (x := .tmp 135) (y := .tmp 131) (xs := ((o.set i (⟨kk, ⟨kk + 1, kk + 2, kk + 3, kk + 4, kk + 5, kk + 6, ((kk + 7) % 3) == 0, kk + 8, kk + 9, markT (kk + 10), ⟨kk + 11, kk + 12, kk + 13, e1.msg.cmd.size, e1.msg.cmd.digest⟩, e1.msg.entries⟩⟩ : Out)).map encOut)) (xs' := ((o.set i (⟨kk, ⟨kk + 1, kk + 2, kk + 3, kk + 4, kk + 5, kk + 6, ((kk + 7) % 3) == 0, kk + 8, kk + 9, markT (kk + 10), ⟨kk + 11, kk + 12, kk + 13, kk + 14, e1.msg.cmd.digest⟩, e1.msg.entries⟩⟩ : Out)).map encOut)) (ys := [.int .i64 (kk + 14)]) (v := .int .i64 (kk + 14)) (encOut (⟨kk, ⟨kk + 1, kk + 2, kk + 3, kk + 4, kk + 5, kk + 6, ((kk + 7) % 3) == 0, kk + 8, kk + 9, markT (kk + 10), ⟨kk + 11, kk + 12, kk + 13, e1.msg.cmd.size, e1.msg.cmd.digest⟩, e1.msg.entries⟩⟩ : Out)) (encOut (⟨kk, ⟨kk + 1, kk + 2, kk + 3, kk + 4, kk + 5, kk + 6, ((kk + 7) % 3) == 0, kk + 8, kk + 9, markT (kk + 10), ⟨kk + 11, kk + 12, kk + 13, kk + 14, e1.msg.cmd.digest⟩, e1.msg.entries⟩⟩ : Out)) (by kernel_rfl) (by kernel_rfl) (by kernel_rfl) (by kernel_rfl) (by kernel_rfl) (mapGet (setGet he1)) (by kernel_rfl) setSetV ?_
    refine At.done rfl ?_
    refine AW.seq ?_
    refine AW.region (At.start ?_)
    refine At.auto 2 (by kernel_rfl) ?_
    refine At.say 137 (.int .i64 (IntKind.i64.wrap ((kk + 14) + 1))) (.int .i64 (kk + 15)) (by kernel_rfl) (sayJ _ (by omega) (by omega)) ?_
    refine At.auto 1 (by kernel_rfl) ?_
    refine At.done rfl ?_
    refine AW.seq ?_
    refine AW.region (At.start ?_)
    refine At.auto 3 (by kernel_rfl) ?_
    refine At.call (laws_markText_spec  (kk + 15) (by first | omega | (dsimp only; omega) | (simp only [List.length_map, List.length_append, List.length_take, List.length_drop, List.length_replicate, List.length_set, List.length_cons, List.length_nil]; omega))) Try.call48 true [] [] [] (by kernel_rfl) (by kernel_rfl) (by kernel_rfl) (by kernel_rfl) (by kernel_rfl) trivial ?_
    refine At.idxRef (t := 29) (d := 142) (x := .tmp 138) (y := .tmp 139) (j := 0) (xs := ((o.set i (⟨kk, ⟨kk + 1, kk + 2, kk + 3, kk + 4, kk + 5, kk + 6, ((kk + 7) % 3) == 0, kk + 8, kk + 9, markT (kk + 10), ⟨kk + 11, kk + 12, kk + 13, kk + 14, e1.msg.cmd.digest⟩, e1.msg.entries⟩⟩ : Out)).map encOut)) (kd := .i64) (i := (i : Int)) (e := 76) (es := 17) (by kernel_rfl) (by kernel_rfl) (by kernel_rfl) (by kernel_rfl) (by kernel_rfl) (by omega) (by first | omega | (simp only [List.length_map, List.length_append, List.length_take, List.length_drop, List.length_replicate, List.length_set, List.length_cons, List.length_nil]; omega)) ?_
    refine At.auto 3 (by kernel_rfl) ?_
    refine At.stEl (t := 9) (i := 0) (e := 76) (es := 17) (j := i) (off := 15) (x := .tmp 145) (y := .tmp 141) (xs := ((o.set i (⟨kk, ⟨kk + 1, kk + 2, kk + 3, kk + 4, kk + 5, kk + 6, ((kk + 7) % 3) == 0, kk + 8, kk + 9, markT (kk + 10), ⟨kk + 11, kk + 12, kk + 13, kk + 14, e1.msg.cmd.digest⟩, e1.msg.entries⟩⟩ : Out)).map encOut)) (xs' := ((o.set i (⟨kk, ⟨kk + 1, kk + 2, kk + 3, kk + 4, kk + 5, kk + 6, ((kk + 7) % 3) == 0, kk + 8, kk + 9, markT (kk + 10), ⟨kk + 11, kk + 12, kk + 13, kk + 14, markT (kk + 15)⟩, e1.msg.entries⟩⟩ : Out)).map encOut)) (ys := [.str (markT (kk + 15))]) (v := .str (markT (kk + 15))) (encOut (⟨kk, ⟨kk + 1, kk + 2, kk + 3, kk + 4, kk + 5, kk + 6, ((kk + 7) % 3) == 0, kk + 8, kk + 9, markT (kk + 10), ⟨kk + 11, kk + 12, kk + 13, kk + 14, e1.msg.cmd.digest⟩, e1.msg.entries⟩⟩ : Out)) (encOut (⟨kk, ⟨kk + 1, kk + 2, kk + 3, kk + 4, kk + 5, kk + 6, ((kk + 7) % 3) == 0, kk + 8, kk + 9, markT (kk + 10), ⟨kk + 11, kk + 12, kk + 13, kk + 14, markT (kk + 15)⟩, e1.msg.entries⟩⟩ : Out)) (by kernel_rfl) (by kernel_rfl) (by kernel_rfl) (by kernel_rfl) (by kernel_rfl) (mapGet (setGet he1)) (by kernel_rfl) setSetV ?_
    refine At.done rfl ?_
    refine AW.seq ?_
    refine AW.region (At.start ?_)
    refine At.auto 2 (by kernel_rfl) ?_
    refine At.say 147 (.int .i64 (IntKind.i64.wrap ((kk + 15) + 1))) (.int .i64 (kk + 16)) (by kernel_rfl) (sayJ _ (by omega) (by omega)) ?_
    refine At.auto 1 (by kernel_rfl) ?_
    refine At.done rfl ?_
    refine AW.region (At.start ?_)
    refine At.auto 2 (by kernel_rfl) ?_
    refine At.idxRef (t := 29) (d := 150) (x := .tmp 148) (y := .tmp 149) (j := 0) (xs := ((o.set i (⟨kk, ⟨kk + 1, kk + 2, kk + 3, kk + 4, kk + 5, kk + 6, ((kk + 7) % 3) == 0, kk + 8, kk + 9, markT (kk + 10), ⟨kk + 11, kk + 12, kk + 13, kk + 14, markT (kk + 15)⟩, e1.msg.entries⟩⟩ : Out)).map encOut)) (kd := .i64) (i := (i : Int)) (e := 76) (es := 17) (by kernel_rfl) (by kernel_rfl) (by kernel_rfl) (by kernel_rfl) (by kernel_rfl) (by omega) (by first | omega | (simp only [List.length_map, List.length_append, List.length_take, List.length_drop, List.length_replicate, List.length_set, List.length_cons, List.length_nil]; omega)) ?_
    refine At.auto 2 (by kernel_rfl) ?_
    refine At.out (t := 31) (d := 153) (x := .tmp 152) (i := 0) (e := 76) (es := 17) (xs := ((o.set i (⟨kk, ⟨kk + 1, kk + 2, kk + 3, kk + 4, kk + 5, kk + 6, ((kk + 7) % 3) == 0, kk + 8, kk + 9, markT (kk + 10), ⟨kk + 11, kk + 12, kk + 13, kk + 14, markT (kk + 15)⟩, e1.msg.entries⟩⟩ : Out)).map encOut)) (xs' := (((o.set i (⟨kk, ⟨kk + 1, kk + 2, kk + 3, kk + 4, kk + 5, kk + 6, ((kk + 7) % 3) == 0, kk + 8, kk + 9, markT (kk + 10), ⟨kk + 11, kk + 12, kk + 13, kk + 14, markT (kk + 15)⟩, e1.msg.entries⟩⟩ : Out)).map encOut)).set i (.agg [.int .i64 kk, .int .i64 (kk + 1), .int .i64 (kk + 2), .int .i64 (kk + 3), .int .i64 (kk + 4), .int .i64 (kk + 5), .int .i64 (kk + 6), .bool (((kk + 7) % 3) == 0), .int .i64 (kk + 8), .int .i64 (kk + 9), .str (markT (kk + 10)), .int .i64 (kk + 11), .int .i64 (kk + 12), .int .i64 (kk + 13), .int .i64 (kk + 14), .str (markT (kk + 15)), .un])) (j := i) (off := 16) (ys := (e1.msg.entries.map encEnt)) (e' := 88) (es' := 6) 253 (encOut (⟨kk, ⟨kk + 1, kk + 2, kk + 3, kk + 4, kk + 5, kk + 6, ((kk + 7) % 3) == 0, kk + 8, kk + 9, markT (kk + 10), ⟨kk + 11, kk + 12, kk + 13, kk + 14, markT (kk + 15)⟩, e1.msg.entries⟩⟩ : Out)) (.agg [.int .i64 kk, .int .i64 (kk + 1), .int .i64 (kk + 2), .int .i64 (kk + 3), .int .i64 (kk + 4), .int .i64 (kk + 5), .int .i64 (kk + 6), .bool (((kk + 7) % 3) == 0), .int .i64 (kk + 8), .int .i64 (kk + 9), .str (markT (kk + 10)), .int .i64 (kk + 11), .int .i64 (kk + 12), .int .i64 (kk + 13), .int .i64 (kk + 14), .str (markT (kk + 15)), .un]) (by kernel_rfl) (by kernel_rfl) (by kernel_rfl) (by kernel_rfl) (by kernel_rfl) (mapGet (setGet he1)) (by kernel_rfl) (by decide) rfl ?_
    refine At.auto 1 (by kernel_rfl) ?_
    refine At.call (laws_markEntryS_spec  e1.msg.entries (kk + 16) (by first | omega | (dsimp only; omega) | (simp only [List.length_map, List.length_append, List.length_take, List.length_drop, List.length_replicate, List.length_set, List.length_cons, List.length_nil]; omega)) (by first | omega | (dsimp only; omega) | (simp only [List.length_map, List.length_append, List.length_take, List.length_drop, List.length_replicate, List.length_set, List.length_cons, List.length_nil]; omega)) (by first | omega | (dsimp only; omega) | (simp only [List.length_map, List.length_append, List.length_take, List.length_drop, List.length_replicate, List.length_set, List.length_cons, List.length_nil]; omega))) Try.call49 true [(253, 0)] [] [] (by kernel_rfl) (by kernel_rfl) (by kernel_rfl) (by kernel_rfl) (by kernel_rfl) trivial ?_
    refine At.auto 1 (by kernel_rfl) ?_
    refine At.done rfl ?_
    refine AW.weak (Sub.close (i := 0) (e := 76) (es := 17) (j := i) (off := 16) (k := 253) (e' := 88) (es' := 6) (xs := (((o.set i (⟨kk, ⟨kk + 1, kk + 2, kk + 3, kk + 4, kk + 5, kk + 6, ((kk + 7) % 3) == 0, kk + 8, kk + 9, markT (kk + 10), ⟨kk + 11, kk + 12, kk + 13, kk + 14, markT (kk + 15)⟩, e1.msg.entries⟩⟩ : Out)).map encOut)).set i (.agg [.int .i64 kk, .int .i64 (kk + 1), .int .i64 (kk + 2), .int .i64 (kk + 3), .int .i64 (kk + 4), .int .i64 (kk + 5), .int .i64 (kk + 6), .bool (((kk + 7) % 3) == 0), .int .i64 (kk + 8), .int .i64 (kk + 9), .str (markT (kk + 10)), .int .i64 (kk + 11), .int .i64 (kk + 12), .int .i64 (kk + 13), .int .i64 (kk + 14), .str (markT (kk + 15)), .un])) (xs' := ((o.set i (⟨kk, ⟨kk + 1, kk + 2, kk + 3, kk + 4, kk + 5, kk + 6, ((kk + 7) % 3) == 0, kk + 8, kk + 9, markT (kk + 10), ⟨kk + 11, kk + 12, kk + 13, kk + 14, markT (kk + 15)⟩, marks markE nxE e1.msg.entries (kk + 16)⟩⟩ : Out)).map encOut)) (zs := ((marks markE nxE e1.msg.entries (kk + 16)).map encEnt)) (y := .agg [.int .i64 kk, .int .i64 (kk + 1), .int .i64 (kk + 2), .int .i64 (kk + 3), .int .i64 (kk + 4), .int .i64 (kk + 5), .int .i64 (kk + 6), .bool (((kk + 7) % 3) == 0), .int .i64 (kk + 8), .int .i64 (kk + 9), .str (markT (kk + 10)), .int .i64 (kk + 11), .int .i64 (kk + 12), .int .i64 (kk + 13), .int .i64 (kk + 14), .str (markT (kk + 15)), .un]) (y' := encOut (⟨kk, ⟨kk + 1, kk + 2, kk + 3, kk + 4, kk + 5, kk + 6, ((kk + 7) % 3) == 0, kk + 8, kk + 9, markT (kk + 10), ⟨kk + 11, kk + 12, kk + 13, kk + 14, markT (kk + 15)⟩, marks markE nxE e1.msg.entries (kk + 16)⟩⟩ : Out)) (by kernel_rfl) flatEnts (by decide) (setGet (mapGet (setGet he1))) (by kernel_rfl) (by rw [List.set_set, ← setSetV])) ?_
    refine AW.region (At.start ?_)
    refine At.auto 2 (by kernel_rfl) ?_
    refine At.say 11 (.int .i64 (IntKind.i64.wrap ((i : Int) + 1))) (.int .i64 ((i : Int) + 1)) (by kernel_rfl) (sayI _ (by omega)) ?_
    refine At.auto 1 (by kernel_rfl) ?_
    refine At.done rfl ?_
    exact ⟨(i + 1, (ends nxE e1.msg.entries (kk + 16)), (o.set i (⟨kk, ⟨kk + 1, kk + 2, kk + 3, kk + 4, kk + 5, kk + 6, ((kk + 7) % 3) == 0, kk + 8, kk + 9, markT (kk + 10), ⟨kk + 11, kk + 12, kk + 13, kk + 14, markT (kk + 15)⟩, marks markE nxE e1.msg.entries (kk + 16)⟩⟩ : Out))), ⟨by first | omega | (have hge := hR.le nxO_ge he1; have := nxO_ge e1 kk; omega), hR.step he1 rfl rfl⟩, (by simp only; omega), Sub.of [(0, 0)] [true, true, false, false, false, true] _ _ (by kernel_rfl) (by kernel_rfl) (by kernel_rfl)⟩
  · have h1 : ¬ ((i : Int) < (o.length : Int)) := by simpa using hb
    clear hb
    refine AW.exit ?_
    refine AW.seq ?_
    refine AW.region (At.start ?_)
    refine At.auto 2 (by kernel_rfl) ?_
    refine At.done rfl ?_
    refine AW.ret ?_
    refine ⟨_, Sub.refl _ _, ?_⟩
    refine KF.conv (fun w => .int .i64 w) (fun w => [.arr 76 17 ((marks markO nxO a k).map encOut)]) (show (kk) = (ends nxO a k) from (hR.done (by omega)).2) ?_
    refine KF.conv (fun w => .int .i64 kk) (fun w => [.arr 76 17 (w.map encOut)]) (show (o) = (marks markO nxO a k) from (hR.done (by omega)).1) ?_
    exact KF.mk (.inr rfl) [(0, 0)] [.int .i64 kk] (by kernel_rfl) (by kernel_rfl) (by kernel_rfl) (by kernel_rfl) (by kernel_rfl)
set_option maxRecDepth 100000 in
set_option maxHeartbeats 4000000 in
theorem laws_heldEntryS_spec  (a : List Ent) (k : Int) (ha : a.length ≤ 1048576) (hk : 0 ≤ k ∧ k + 20 * a.length ≤ 4611686018427387904) : FnSpec Try.prog 50 [.sl false 6 (a.map encEnt), .int .i64 k] [] (.int .i64 (held okE nxE a k)) [] := by
  refine FnSpec.of 73 Try.func50 rfl Try.ntmps50 (by simp) (AW.weakK ?_)
  refine AW.seq ?_
  refine AW.region (At.start ?_)
  refine At.auto 1 (by kernel_rfl) ?_
  refine At.done rfl ?_
  refine AW.seq ?_
  refine AW.seq ?_
  refine AW.region (At.start ?_)
  refine At.auto 1 (by kernel_rfl) ?_
  refine At.done rfl ?_
  refine AW.block ?_
  refine AW.loopW (fun (x : Nat × Int) => match x with | (i, kk) => Go.Sy.mk [.sl false 6 (a.map encEnt), .int .i64 kk, .un, .un, .un, .int .i64 (i : Int)] []) (fun (x : Nat × Int) => match x with | (i, kk) => i ≤ a.length ∧ 0 ≤ kk ∧ kk + 20 * ((a.length : Int) - i) ≤ 4611686018427387904 ∧ held okE nxE a k = held okE nxE (a.drop i) kk) (fun (x : Nat × Int) => match x with | (i, kk) => a.length - i) (0, k) ⟨by omega, by omega, by omega, by rw [List.drop_zero]⟩ (Sub.of [] [true, true, false, false, false, true] _ _ (by kernel_rfl) (by kernel_rfl) (by kernel_rfl)) ?_
  rintro ⟨i, kk⟩ ⟨hi, hkk, hkb, hR⟩
  refine AW.seq ?_
  refine AW.seq ?_
  refine AW.region (At.start ?_)
  refine At.auto 3 (by kernel_rfl) ?_
  refine At.say 8 (.int .i64 (((a.map encEnt).length : Nat) : Int)) (.int .i64 (a.length : Int)) (by kernel_rfl) (sayLen _ _) ?_
  refine At.auto 1 (by kernel_rfl) ?_
  refine At.done rfl ?_
  refine AW.cond (decide ((i : Int) < (a.length : Int))) (by kernel_rfl) (fun hb => ?_) (fun hb => ?_)
  · have h1 : (i : Int) < (a.length : Int) := by simpa using hb
    clear hb
    refine AW.skip ?_
    refine AW.seq ?_
    refine AW.block ?_
    refine AW.seq ?_
    refine AW.seq ?_
    refine AW.region (At.start ?_)
    refine At.auto 2 (by kernel_rfl) ?_
    refine At.idxSl (t := 31) (d := 14) (x := .tmp 12) (y := .tmp 13) (p := false) (es := 6) (xs := (a.map encEnt)) (kd := .i64) (i := (i : Int)) (e := 88) (by kernel_rfl) (by kernel_rfl) (by kernel_rfl) (by kernel_rfl) (by omega) (by first | omega | (simp only [List.length_map, List.length_append, List.length_take, List.length_drop, List.length_replicate, List.length_set, List.length_cons, List.length_nil]; omega)) ?_
    refine At.auto 1 (by kernel_rfl) ?_
    refine Exists.elim (show ∃ e, a[i]? = some e from ⟨_, List.getElem?_eq_getElem (by first | omega | (simp only [List.length_map, List.length_append, List.length_take, List.length_drop, List.length_replicate, List.length_set, List.length_cons, List.length_nil]; omega))⟩) fun e1 he1 => ?_
    refine At.ldVp (t := 3) (d := 16) (x := .tmp 15) (p := false) (es := 6) (xs := (a.map encEnt)) (j := i) (off := 0) (b := false) (m := 1) (encEnt e1) (.int .i64 e1.term) (by kernel_rfl) (by kernel_rfl) (by kernel_rfl) (by kernel_rfl) (mapGet he1) (by kernel_rfl) ?_
    refine At.auto 2 (by kernel_rfl) ?_
    refine At.done rfl ?_
    refine AW.cond (e1.term != kk) (by kernel_rfl) (fun hb => ?_) (fun hb => ?_)
    · have h2 : ¬ (e1.term = kk) := by simpa using hb
      clear hb
      refine AW.seq ?_
      refine AW.region (At.start ?_)
      refine At.auto 1 (by kernel_rfl) ?_
      refine At.done rfl ?_
      refine AW.ret ?_
      refine ⟨_, Sub.refl _ _, ?_⟩
      refine KF.conv (fun w => .int .i64 w) (fun w => []) (show (-1) = (held okE nxE a k) from by first | (rw [hR, dropCons he1, held, if_neg (by simp [okE, h1, h2])]; done) | (rw [hR, List.drop_of_length_le (by omega)]; rfl)) ?_
      exact KF.mk (.inr rfl) [] [.int .i64 (-1)] (by kernel_rfl) (by kernel_rfl) (by kernel_rfl) (by kernel_rfl) (by kernel_rfl)
    · have h2 : e1.term = kk := by simpa using hb
      clear hb
      refine AW.skip ?_
      refine AW.seq ?_
      refine AW.region (At.start ?_)
      refine At.auto 2 (by kernel_rfl) ?_
      refine At.say 20 (.int .i64 (IntKind.i64.wrap (kk + 1))) (.int .i64 (kk + 1)) (by kernel_rfl) (sayI _ (by omega)) ?_
      refine At.auto 1 (by kernel_rfl) ?_
      refine At.done rfl ?_
      refine AW.seq ?_
      refine AW.seq ?_
      refine AW.region (At.start ?_)
      refine At.auto 2 (by kernel_rfl) ?_
      refine At.idxSl (t := 31) (d := 23) (x := .tmp 21) (y := .tmp 22) (p := false) (es := 6) (xs := (a.map encEnt)) (kd := .i64) (i := (i : Int)) (e := 88) (by kernel_rfl) (by kernel_rfl) (by kernel_rfl) (by kernel_rfl) (by omega) (by first | omega | (simp only [List.length_map, List.length_append, List.length_take, List.length_drop, List.length_replicate, List.length_set, List.length_cons, List.length_nil]; omega)) ?_
      refine At.auto 2 (by kernel_rfl) ?_
      refine At.ldVp (t := 3) (d := 26) (x := .tmp 25) (p := false) (es := 6) (xs := (a.map encEnt)) (j := i) (off := 1) (b := false) (m := 1) (encEnt e1) (.int .i64 e1.cmd.kind) (by kernel_rfl) (by kernel_rfl) (by kernel_rfl) (by kernel_rfl) (mapGet he1) (by kernel_rfl) ?_
      refine At.auto 2 (by kernel_rfl) ?_
      refine At.done rfl ?_
      refine AW.cond (e1.cmd.kind != (kk + 1)) (by kernel_rfl) (fun hb => ?_) (fun hb => ?_)
      · have h3 : ¬ (e1.cmd.kind = kk + 1) := by simpa using hb
        clear hb
        refine AW.seq ?_
        refine AW.region (At.start ?_)
        refine At.auto 1 (by kernel_rfl) ?_
        refine At.done rfl ?_
        refine AW.ret ?_
        refine ⟨_, Sub.refl _ _, ?_⟩
        refine KF.conv (fun w => .int .i64 w) (fun w => []) (show (-1) = (held okE nxE a k) from by first | (rw [hR, dropCons he1, held, if_neg (by simp [okE, h1, h2, h3])]; done) | (rw [hR, List.drop_of_length_le (by omega)]; rfl)) ?_
        exact KF.mk (.inr rfl) [] [.int .i64 (-1)] (by kernel_rfl) (by kernel_rfl) (by kernel_rfl) (by kernel_rfl) (by kernel_rfl)
      · have h3 : e1.cmd.kind = kk + 1 := by simpa using hb
        clear hb
        refine AW.skip ?_
        refine AW.seq ?_
        refine AW.region (At.start ?_)
        refine At.auto 2 (by kernel_rfl) ?_
        refine At.say 30 (.int .i64 (IntKind.i64.wrap ((kk + 1) + 1))) (.int .i64 (kk + 2)) (by kernel_rfl) (sayJ _ (by omega) (by omega)) ?_
        refine At.auto 1 (by kernel_rfl) ?_
        refine At.done rfl ?_
        refine AW.seq ?_
        refine AW.seq ?_
        refine AW.region (At.start ?_)
        refine At.auto 2 (by kernel_rfl) ?_
        refine At.idxSl (t := 31) (d := 33) (x := .tmp 31) (y := .tmp 32) (p := false) (es := 6) (xs := (a.map encEnt)) (kd := .i64) (i := (i : Int)) (e := 88) (by kernel_rfl) (by kernel_rfl) (by kernel_rfl) (by kernel_rfl) (by omega) (by first | omega | (simp only [List.length_map, List.length_append, List.length_take, List.length_drop, List.length_replicate, List.length_set, List.length_cons, List.length_nil]; omega)) ?_
        refine At.auto 2 (by kernel_rfl) ?_
        refine At.ldVp (t := 3) (d := 36) (x := .tmp 35) (p := false) (es := 6) (xs := (a.map encEnt)) (j := i) (off := 2) (b := false) (m := 1) (encEnt e1) (.int .i64 e1.cmd.release) (by kernel_rfl) (by kernel_rfl) (by kernel_rfl) (by kernel_rfl) (mapGet he1) (by kernel_rfl) ?_
        refine At.auto 2 (by kernel_rfl) ?_
        refine At.done rfl ?_
        refine AW.cond (e1.cmd.release != (kk + 2)) (by kernel_rfl) (fun hb => ?_) (fun hb => ?_)
        · have h4 : ¬ (e1.cmd.release = kk + 2) := by simpa using hb
          clear hb
          refine AW.seq ?_
          refine AW.region (At.start ?_)
          refine At.auto 1 (by kernel_rfl) ?_
          refine At.done rfl ?_
          refine AW.ret ?_
          refine ⟨_, Sub.refl _ _, ?_⟩
          refine KF.conv (fun w => .int .i64 w) (fun w => []) (show (-1) = (held okE nxE a k) from by first | (rw [hR, dropCons he1, held, if_neg (by simp [okE, h1, h2, h3, h4])]; done) | (rw [hR, List.drop_of_length_le (by omega)]; rfl)) ?_
          exact KF.mk (.inr rfl) [] [.int .i64 (-1)] (by kernel_rfl) (by kernel_rfl) (by kernel_rfl) (by kernel_rfl) (by kernel_rfl)
        · have h4 : e1.cmd.release = kk + 2 := by simpa using hb
          clear hb
          refine AW.skip ?_
          refine AW.seq ?_
          refine AW.region (At.start ?_)
          refine At.auto 2 (by kernel_rfl) ?_
          refine At.say 40 (.int .i64 (IntKind.i64.wrap ((kk + 2) + 1))) (.int .i64 (kk + 3)) (by kernel_rfl) (sayJ _ (by omega) (by omega)) ?_
          refine At.auto 1 (by kernel_rfl) ?_
          refine At.done rfl ?_
          refine AW.seq ?_
          refine AW.seq ?_
          refine AW.region (At.start ?_)
          refine At.auto 2 (by kernel_rfl) ?_
          refine At.idxSl (t := 31) (d := 43) (x := .tmp 41) (y := .tmp 42) (p := false) (es := 6) (xs := (a.map encEnt)) (kd := .i64) (i := (i : Int)) (e := 88) (by kernel_rfl) (by kernel_rfl) (by kernel_rfl) (by kernel_rfl) (by omega) (by first | omega | (simp only [List.length_map, List.length_append, List.length_take, List.length_drop, List.length_replicate, List.length_set, List.length_cons, List.length_nil]; omega)) ?_
          refine At.auto 2 (by kernel_rfl) ?_
          refine At.ldVp (t := 3) (d := 46) (x := .tmp 45) (p := false) (es := 6) (xs := (a.map encEnt)) (j := i) (off := 3) (b := false) (m := 1) (encEnt e1) (.int .i64 e1.cmd.node) (by kernel_rfl) (by kernel_rfl) (by kernel_rfl) (by kernel_rfl) (mapGet he1) (by kernel_rfl) ?_
          refine At.auto 2 (by kernel_rfl) ?_
          refine At.done rfl ?_
          refine AW.cond (e1.cmd.node != (kk + 3)) (by kernel_rfl) (fun hb => ?_) (fun hb => ?_)
          · have h5 : ¬ (e1.cmd.node = kk + 3) := by simpa using hb
            clear hb
            refine AW.seq ?_
            refine AW.region (At.start ?_)
            refine At.auto 1 (by kernel_rfl) ?_
            refine At.done rfl ?_
            refine AW.ret ?_
            refine ⟨_, Sub.refl _ _, ?_⟩
            refine KF.conv (fun w => .int .i64 w) (fun w => []) (show (-1) = (held okE nxE a k) from by first | (rw [hR, dropCons he1, held, if_neg (by simp [okE, h1, h2, h3, h4, h5])]; done) | (rw [hR, List.drop_of_length_le (by omega)]; rfl)) ?_
            exact KF.mk (.inr rfl) [] [.int .i64 (-1)] (by kernel_rfl) (by kernel_rfl) (by kernel_rfl) (by kernel_rfl) (by kernel_rfl)
          · have h5 : e1.cmd.node = kk + 3 := by simpa using hb
            clear hb
            refine AW.skip ?_
            refine AW.seq ?_
            refine AW.region (At.start ?_)
            refine At.auto 2 (by kernel_rfl) ?_
            refine At.say 50 (.int .i64 (IntKind.i64.wrap ((kk + 3) + 1))) (.int .i64 (kk + 4)) (by kernel_rfl) (sayJ _ (by omega) (by omega)) ?_
            refine At.auto 1 (by kernel_rfl) ?_
            refine At.done rfl ?_
            refine AW.seq ?_
            refine AW.seq ?_
            refine AW.region (At.start ?_)
            refine At.auto 2 (by kernel_rfl) ?_
            refine At.idxSl (t := 31) (d := 53) (x := .tmp 51) (y := .tmp 52) (p := false) (es := 6) (xs := (a.map encEnt)) (kd := .i64) (i := (i : Int)) (e := 88) (by kernel_rfl) (by kernel_rfl) (by kernel_rfl) (by kernel_rfl) (by omega) (by first | omega | (simp only [List.length_map, List.length_append, List.length_take, List.length_drop, List.length_replicate, List.length_set, List.length_cons, List.length_nil]; omega)) ?_
            refine At.auto 2 (by kernel_rfl) ?_
            refine At.ldVp (t := 3) (d := 56) (x := .tmp 55) (p := false) (es := 6) (xs := (a.map encEnt)) (j := i) (off := 4) (b := false) (m := 1) (encEnt e1) (.int .i64 e1.cmd.size) (by kernel_rfl) (by kernel_rfl) (by kernel_rfl) (by kernel_rfl) (mapGet he1) (by kernel_rfl) ?_
            refine At.auto 2 (by kernel_rfl) ?_
            refine At.done rfl ?_
            refine AW.cond (e1.cmd.size != (kk + 4)) (by kernel_rfl) (fun hb => ?_) (fun hb => ?_)
            · have h6 : ¬ (e1.cmd.size = kk + 4) := by simpa using hb
              clear hb
              refine AW.seq ?_
              refine AW.region (At.start ?_)
              refine At.auto 1 (by kernel_rfl) ?_
              refine At.done rfl ?_
              refine AW.ret ?_
              refine ⟨_, Sub.refl _ _, ?_⟩
              refine KF.conv (fun w => .int .i64 w) (fun w => []) (show (-1) = (held okE nxE a k) from by first | (rw [hR, dropCons he1, held, if_neg (by simp [okE, h1, h2, h3, h4, h5, h6])]; done) | (rw [hR, List.drop_of_length_le (by omega)]; rfl)) ?_
              exact KF.mk (.inr rfl) [] [.int .i64 (-1)] (by kernel_rfl) (by kernel_rfl) (by kernel_rfl) (by kernel_rfl) (by kernel_rfl)
            · have h6 : e1.cmd.size = kk + 4 := by simpa using hb
              clear hb
              refine AW.skip ?_
              refine AW.seq ?_
              refine AW.region (At.start ?_)
              refine At.auto 2 (by kernel_rfl) ?_
              refine At.say 60 (.int .i64 (IntKind.i64.wrap ((kk + 4) + 1))) (.int .i64 (kk + 5)) (by kernel_rfl) (sayJ _ (by omega) (by omega)) ?_
              refine At.auto 1 (by kernel_rfl) ?_
              refine At.done rfl ?_
              refine AW.seq ?_
              refine AW.seq ?_
              refine AW.regionD Try_mix (At.start ?_)
              refine At.auto 2 (by kernel_rfl) ?_
              refine At.idxSl (t := 31) (d := 63) (x := .tmp 61) (y := .tmp 62) (p := false) (es := 6) (xs := (a.map encEnt)) (kd := .i64) (i := (i : Int)) (e := 88) (by kernel_rfl) (by kernel_rfl) (by kernel_rfl) (by kernel_rfl) (by omega) (by first | omega | (simp only [List.length_map, List.length_append, List.length_take, List.length_drop, List.length_replicate, List.length_set, List.length_cons, List.length_nil]; omega)) ?_
              refine At.auto 2 (by kernel_rfl) ?_
              refine At.ldVp (t := 9) (d := 66) (x := .tmp 65) (p := false) (es := 6) (xs := (a.map encEnt)) (j := i) (off := 5) (b := false) (m := 1) (encEnt e1) (.str e1.cmd.digest) (by kernel_rfl) (by kernel_rfl) (by kernel_rfl) (by kernel_rfl) (mapGet he1) (by kernel_rfl) ?_
              refine At.auto 1 (by kernel_rfl) ?_
              refine At.call (laws_markText_spec  (kk + 5) (by first | omega | (dsimp only; omega) | (simp only [List.length_map, List.length_append, List.length_take, List.length_drop, List.length_replicate, List.length_set, List.length_cons, List.length_nil]; omega))) Try.call48 true [] [] [] (by kernel_rfl) (by kernel_rfl) (by kernel_rfl) (by kernel_rfl) (by kernel_rfl) trivial ?_
              refine At.auto 1 (by kernel_rfl) ?_
              refine At.done rfl ⟨by kernel_rfl, ?_⟩
              refine AW.cond (!(e1.cmd.digest.toList == (markT (kk + 5)).toList)) (by kernel_rfl) (fun hb => ?_) (fun hb => ?_)
              · have h7 : ¬ (e1.cmd.digest.toList = (markT (kk + 5)).toList) := by simpa using hb
                clear hb
                refine AW.seq ?_
                refine AW.region (At.start ?_)
                refine At.auto 1 (by kernel_rfl) ?_
                refine At.done rfl ?_
                refine AW.ret ?_
                refine ⟨_, Sub.refl _ _, ?_⟩
                refine KF.conv (fun w => .int .i64 w) (fun w => []) (show (-1) = (held okE nxE a k) from by first | (rw [hR, dropCons he1, held, if_neg (by simp [okE, h1, h2, h3, h4, h5, h6, h7])]; done) | (rw [hR, List.drop_of_length_le (by omega)]; rfl)) ?_
                exact KF.mk (.inr rfl) [] [.int .i64 (-1)] (by kernel_rfl) (by kernel_rfl) (by kernel_rfl) (by kernel_rfl) (by kernel_rfl)
              · have h7 : e1.cmd.digest.toList = (markT (kk + 5)).toList := by simpa using hb
                clear hb
                refine AW.skip ?_
                refine AW.region (At.start ?_)
                refine At.auto 2 (by kernel_rfl) ?_
                refine At.say 71 (.int .i64 (IntKind.i64.wrap ((kk + 5) + 1))) (.int .i64 (kk + 6)) (by kernel_rfl) (sayJ _ (by omega) (by omega)) ?_
                refine At.auto 1 (by kernel_rfl) ?_
                refine At.done rfl ?_
                refine AW.region (At.start ?_)
                refine At.auto 2 (by kernel_rfl) ?_
                refine At.say 11 (.int .i64 (IntKind.i64.wrap ((i : Int) + 1))) (.int .i64 ((i : Int) + 1)) (by kernel_rfl) (sayI _ (by omega)) ?_
                refine At.auto 1 (by kernel_rfl) ?_
                refine At.done rfl ?_
                exact ⟨(i + 1, (kk + 6)), ⟨by omega, by omega, by omega, by rw [hR, dropCons he1, held, if_pos (by simp [okE, h1, h2, h3, h4, h5, h6, h7])]; rfl⟩, (by simp only; omega), Sub.of [] [true, true, false, false, false, true] _ _ (by kernel_rfl) (by kernel_rfl) (by kernel_rfl)⟩
  · have h1 : ¬ ((i : Int) < (a.length : Int)) := by simpa using hb
    clear hb
    refine AW.exit ?_
    refine AW.seq ?_
    refine AW.region (At.start ?_)
    refine At.auto 2 (by kernel_rfl) ?_
    refine At.done rfl ?_
    refine AW.ret ?_
    refine ⟨_, Sub.refl _ _, ?_⟩
    refine KF.conv (fun w => .int .i64 w) (fun w => []) (show (kk) = (held okE nxE a k) from by first | (rw [hR, dropCons he1, held, if_neg (by simp [okE, h1])]; done) | (rw [hR, List.drop_of_length_le (by omega)]; rfl)) ?_
    exact KF.mk (.inr rfl) [] [.int .i64 kk] (by kernel_rfl) (by kernel_rfl) (by kernel_rfl) (by kernel_rfl) (by kernel_rfl)
set_option maxRecDepth 100000 in
set_option maxHeartbeats 4000000 in
theorem laws_heldOutS_spec  (a : List Out) (k : Int) (ha : FewOuts a) (hk : 0 ≤ k ∧ k ≤ 4611686017427387904) : FnSpec Try.prog 15 [.sl false 17 (a.map encOutV), .int .i64 k] [] (.int .i64 (heldO a k)) [] := by
  obtain ⟨ha1, ha2⟩ := id ha
  refine FnSpec.of 191 Try.func15 rfl Try.ntmps15 (by simp) (AW.weakK ?_)
  refine AW.seq ?_
  refine AW.region (At.start ?_)
  refine At.auto 1 (by kernel_rfl) ?_
  refine At.done rfl ?_
  refine AW.seq ?_
  refine AW.seq ?_
  refine AW.region (At.start ?_)
  refine At.auto 1 (by kernel_rfl) ?_
  refine At.done rfl ?_
  refine AW.block ?_
  refine AW.loopW (fun (x : Nat × Int) => match x with | (i, kk) => Go.Sy.mk [.sl false 17 (a.map encOutV), .int .i64 kk, .un, .un, .un, .int .i64 (i : Int)] []) (fun (x : Nat × Int) => match x with | (i, kk) => i ≤ a.length ∧ 0 ≤ kk ∧ kk ≤ k + 1000 * i ∧ heldO a k = heldO (a.drop i) kk) (fun (x : Nat × Int) => match x with | (i, kk) => a.length - i) (0, k) ⟨by omega, by omega, by omega, by rw [List.drop_zero]⟩ (Sub.of [] [true, true, false, false, false, true] _ _ (by kernel_rfl) (by kernel_rfl) (by kernel_rfl)) ?_
  rintro ⟨i, kk⟩ ⟨hi, hkk, hkb, hR⟩
  refine AW.seq ?_
  refine AW.seq ?_
  refine AW.region (At.start ?_)
  refine At.auto 3 (by kernel_rfl) ?_
  refine At.say 8 (.int .i64 (((a.map encOutV).length : Nat) : Int)) (.int .i64 (a.length : Int)) (by kernel_rfl) (sayLen _ _) ?_
  refine At.auto 1 (by kernel_rfl) ?_
  refine At.done rfl ?_
  refine AW.cond (decide ((i : Int) < (a.length : Int))) (by kernel_rfl) (fun hb => ?_) (fun hb => ?_)
  · have h1 : (i : Int) < (a.length : Int) := by simpa using hb
    clear hb
    refine AW.skip ?_
    refine AW.seq ?_
    refine AW.block ?_
    refine AW.seq ?_
    refine AW.seq ?_
    refine AW.region (At.start ?_)
    refine At.auto 2 (by kernel_rfl) ?_
    refine At.idxSl (t := 29) (d := 14) (x := .tmp 12) (y := .tmp 13) (p := false) (es := 17) (xs := (a.map encOutV)) (kd := .i64) (i := (i : Int)) (e := 76) (by kernel_rfl) (by kernel_rfl) (by kernel_rfl) (by kernel_rfl) (by omega) (by first | omega | (simp only [List.length_map, List.length_append, List.length_take, List.length_drop, List.length_replicate, List.length_set, List.length_cons, List.length_nil]; omega)) ?_
    refine At.auto 1 (by kernel_rfl) ?_
    refine Exists.elim (show ∃ e, a[i]? = some e from ⟨_, List.getElem?_eq_getElem (by first | omega | (simp only [List.length_map, List.length_append, List.length_take, List.length_drop, List.length_replicate, List.length_set, List.length_cons, List.length_nil]; omega))⟩) fun e1 he1 => ?_
    have hen := ha2 _ (List.mem_of_getElem? he1)
    refine At.ldVp (t := 3) (d := 16) (x := .tmp 15) (p := false) (es := 17) (xs := (a.map encOutV)) (j := i) (off := 0) (b := false) (m := 1) (encOutV e1) (.int .i64 e1.to) (by kernel_rfl) (by kernel_rfl) (by kernel_rfl) (by kernel_rfl) (mapGet he1) (by kernel_rfl) ?_
    refine At.auto 2 (by kernel_rfl) ?_
    refine At.done rfl ?_
    refine AW.cond (e1.to != kk) (by kernel_rfl) (fun hb => ?_) (fun hb => ?_)
    · have h2 : ¬ (e1.to = kk) := by simpa using hb
      clear hb
      refine AW.seq ?_
      refine AW.region (At.start ?_)
      refine At.auto 1 (by kernel_rfl) ?_
      refine At.done rfl ?_
      refine AW.ret ?_
      refine ⟨_, Sub.refl _ _, ?_⟩
      refine KF.conv (fun w => .int .i64 w) (fun w => []) (show (-1) = (heldO a k) from by first | (rw [hR, dropCons he1, heldO, if_pos (by simp [okM, h1, h2]), if_pos (by assumption)]; done) | (rw [hR, dropCons he1, heldO, if_neg (by simp [okM, h1, h2])]; done) | (rw [hR, List.drop_of_length_le (by omega)]; rfl)) ?_
      exact KF.mk (.inr rfl) [] [.int .i64 (-1)] (by kernel_rfl) (by kernel_rfl) (by kernel_rfl) (by kernel_rfl) (by kernel_rfl)
    · have h2 : e1.to = kk := by simpa using hb
      clear hb
      refine AW.skip ?_
      refine AW.seq ?_
      refine AW.region (At.start ?_)
      refine At.auto 2 (by kernel_rfl) ?_
      refine At.say 20 (.int .i64 (IntKind.i64.wrap (kk + 1))) (.int .i64 (kk + 1)) (by kernel_rfl) (sayI _ (by omega)) ?_
      refine At.auto 1 (by kernel_rfl) ?_
      refine At.done rfl ?_
      refine AW.seq ?_
      refine AW.seq ?_
      refine AW.region (At.start ?_)
      refine At.auto 2 (by kernel_rfl) ?_
      refine At.idxSl (t := 29) (d := 23) (x := .tmp 21) (y := .tmp 22) (p := false) (es := 17) (xs := (a.map encOutV)) (kd := .i64) (i := (i : Int)) (e := 76) (by kernel_rfl) (by kernel_rfl) (by kernel_rfl) (by kernel_rfl) (by omega) (by first | omega | (simp only [List.length_map, List.length_append, List.length_take, List.length_drop, List.length_replicate, List.length_set, List.length_cons, List.length_nil]; omega)) ?_
      refine At.auto 2 (by kernel_rfl) ?_
      refine At.ldVp (t := 3) (d := 26) (x := .tmp 25) (p := false) (es := 17) (xs := (a.map encOutV)) (j := i) (off := 1) (b := false) (m := 1) (encOutV e1) (.int .i64 e1.msg.kind) (by kernel_rfl) (by kernel_rfl) (by kernel_rfl) (by kernel_rfl) (mapGet he1) (by kernel_rfl) ?_
      refine At.auto 2 (by kernel_rfl) ?_
      refine At.done rfl ?_
      refine AW.cond (e1.msg.kind != (kk + 1)) (by kernel_rfl) (fun hb => ?_) (fun hb => ?_)
      · have h3 : ¬ (e1.msg.kind = kk + 1) := by simpa using hb
        clear hb
        refine AW.seq ?_
        refine AW.region (At.start ?_)
        refine At.auto 1 (by kernel_rfl) ?_
        refine At.done rfl ?_
        refine AW.ret ?_
        refine ⟨_, Sub.refl _ _, ?_⟩
        refine KF.conv (fun w => .int .i64 w) (fun w => []) (show (-1) = (heldO a k) from by first | (rw [hR, dropCons he1, heldO, if_pos (by simp [okM, h1, h2, h3]), if_pos (by assumption)]; done) | (rw [hR, dropCons he1, heldO, if_neg (by simp [okM, h1, h2, h3])]; done) | (rw [hR, List.drop_of_length_le (by omega)]; rfl)) ?_
        exact KF.mk (.inr rfl) [] [.int .i64 (-1)] (by kernel_rfl) (by kernel_rfl) (by kernel_rfl) (by kernel_rfl) (by kernel_rfl)
      · have h3 : e1.msg.kind = kk + 1 := by simpa using hb
        clear hb
        refine AW.skip ?_
        refine AW.seq ?_
        refine AW.region (At.start ?_)
        refine At.auto 2 (by kernel_rfl) ?_
        refine At.say 30 (.int .i64 (IntKind.i64.wrap ((kk + 1) + 1))) (.int .i64 (kk + 2)) (by kernel_rfl) (sayJ _ (by omega) (by omega)) ?_
        refine At.auto 1 (by kernel_rfl) ?_
        refine At.done rfl ?_
        refine AW.seq ?_
        refine AW.seq ?_
        refine AW.region (At.start ?_)
        refine At.auto 2 (by kernel_rfl) ?_
        refine At.idxSl (t := 29) (d := 33) (x := .tmp 31) (y := .tmp 32) (p := false) (es := 17) (xs := (a.map encOutV)) (kd := .i64) (i := (i : Int)) (e := 76) (by kernel_rfl) (by kernel_rfl) (by kernel_rfl) (by kernel_rfl) (by omega) (by first | omega | (simp only [List.length_map, List.length_append, List.length_take, List.length_drop, List.length_replicate, List.length_set, List.length_cons, List.length_nil]; omega)) ?_
        refine At.auto 2 (by kernel_rfl) ?_
        refine At.ldVp (t := 3) (d := 36) (x := .tmp 35) (p := false) (es := 17) (xs := (a.map encOutV)) (j := i) (off := 2) (b := false) (m := 1) (encOutV e1) (.int .i64 e1.msg.from_) (by kernel_rfl) (by kernel_rfl) (by kernel_rfl) (by kernel_rfl) (mapGet he1) (by kernel_rfl) ?_
        refine At.auto 2 (by kernel_rfl) ?_
        refine At.done rfl ?_
        refine AW.cond (e1.msg.from_ != (kk + 2)) (by kernel_rfl) (fun hb => ?_) (fun hb => ?_)
        · have h4 : ¬ (e1.msg.from_ = kk + 2) := by simpa using hb
          clear hb
          refine AW.seq ?_
          refine AW.region (At.start ?_)
          refine At.auto 1 (by kernel_rfl) ?_
          refine At.done rfl ?_
          refine AW.ret ?_
          refine ⟨_, Sub.refl _ _, ?_⟩
          refine KF.conv (fun w => .int .i64 w) (fun w => []) (show (-1) = (heldO a k) from by first | (rw [hR, dropCons he1, heldO, if_pos (by simp [okM, h1, h2, h3, h4]), if_pos (by assumption)]; done) | (rw [hR, dropCons he1, heldO, if_neg (by simp [okM, h1, h2, h3, h4])]; done) | (rw [hR, List.drop_of_length_le (by omega)]; rfl)) ?_
          exact KF.mk (.inr rfl) [] [.int .i64 (-1)] (by kernel_rfl) (by kernel_rfl) (by kernel_rfl) (by kernel_rfl) (by kernel_rfl)
        · have h4 : e1.msg.from_ = kk + 2 := by simpa using hb
          clear hb
          refine AW.skip ?_
          refine AW.seq ?_
          refine AW.region (At.start ?_)
          refine At.auto 2 (by kernel_rfl) ?_
          refine At.say 40 (.int .i64 (IntKind.i64.wrap ((kk + 2) + 1))) (.int .i64 (kk + 3)) (by kernel_rfl) (sayJ _ (by omega) (by omega)) ?_
          refine At.auto 1 (by kernel_rfl) ?_
          refine At.done rfl ?_
          refine AW.seq ?_
          refine AW.seq ?_
          refine AW.region (At.start ?_)
          refine At.auto 2 (by kernel_rfl) ?_
          refine At.idxSl (t := 29) (d := 43) (x := .tmp 41) (y := .tmp 42) (p := false) (es := 17) (xs := (a.map encOutV)) (kd := .i64) (i := (i : Int)) (e := 76) (by kernel_rfl) (by kernel_rfl) (by kernel_rfl) (by kernel_rfl) (by omega) (by first | omega | (simp only [List.length_map, List.length_append, List.length_take, List.length_drop, List.length_replicate, List.length_set, List.length_cons, List.length_nil]; omega)) ?_
          refine At.auto 2 (by kernel_rfl) ?_
          refine At.ldVp (t := 3) (d := 46) (x := .tmp 45) (p := false) (es := 17) (xs := (a.map encOutV)) (j := i) (off := 3) (b := false) (m := 1) (encOutV e1) (.int .i64 e1.msg.term) (by kernel_rfl) (by kernel_rfl) (by kernel_rfl) (by kernel_rfl) (mapGet he1) (by kernel_rfl) ?_
          refine At.auto 2 (by kernel_rfl) ?_
          refine At.done rfl ?_
          refine AW.cond (e1.msg.term != (kk + 3)) (by kernel_rfl) (fun hb => ?_) (fun hb => ?_)
          · have h5 : ¬ (e1.msg.term = kk + 3) := by simpa using hb
            clear hb
            refine AW.seq ?_
            refine AW.region (At.start ?_)
            refine At.auto 1 (by kernel_rfl) ?_
            refine At.done rfl ?_
            refine AW.ret ?_
            refine ⟨_, Sub.refl _ _, ?_⟩
            refine KF.conv (fun w => .int .i64 w) (fun w => []) (show (-1) = (heldO a k) from by first | (rw [hR, dropCons he1, heldO, if_pos (by simp [okM, h1, h2, h3, h4, h5]), if_pos (by assumption)]; done) | (rw [hR, dropCons he1, heldO, if_neg (by simp [okM, h1, h2, h3, h4, h5])]; done) | (rw [hR, List.drop_of_length_le (by omega)]; rfl)) ?_
            exact KF.mk (.inr rfl) [] [.int .i64 (-1)] (by kernel_rfl) (by kernel_rfl) (by kernel_rfl) (by kernel_rfl) (by kernel_rfl)
          · have h5 : e1.msg.term = kk + 3 := by simpa using hb
            clear hb
            refine AW.skip ?_
            refine AW.seq ?_
            refine AW.region (At.start ?_)
            refine At.auto 2 (by kernel_rfl) ?_
            refine At.say 50 (.int .i64 (IntKind.i64.wrap ((kk + 3) + 1))) (.int .i64 (kk + 4)) (by kernel_rfl) (sayJ _ (by omega) (by omega)) ?_
            refine At.auto 1 (by kernel_rfl) ?_
            refine At.done rfl ?_
            refine AW.seq ?_
            refine AW.seq ?_
            refine AW.region (At.start ?_)
            refine At.auto 2 (by kernel_rfl) ?_
            refine At.idxSl (t := 29) (d := 53) (x := .tmp 51) (y := .tmp 52) (p := false) (es := 17) (xs := (a.map encOutV)) (kd := .i64) (i := (i : Int)) (e := 76) (by kernel_rfl) (by kernel_rfl) (by kernel_rfl) (by kernel_rfl) (by omega) (by first | omega | (simp only [List.length_map, List.length_append, List.length_take, List.length_drop, List.length_replicate, List.length_set, List.length_cons, List.length_nil]; omega)) ?_
            refine At.auto 2 (by kernel_rfl) ?_
            refine At.ldVp (t := 3) (d := 56) (x := .tmp 55) (p := false) (es := 17) (xs := (a.map encOutV)) (j := i) (off := 4) (b := false) (m := 1) (encOutV e1) (.int .i64 e1.msg.at_) (by kernel_rfl) (by kernel_rfl) (by kernel_rfl) (by kernel_rfl) (mapGet he1) (by kernel_rfl) ?_
            refine At.auto 2 (by kernel_rfl) ?_
            refine At.done rfl ?_
            refine AW.cond (e1.msg.at_ != (kk + 4)) (by kernel_rfl) (fun hb => ?_) (fun hb => ?_)
            · have h6 : ¬ (e1.msg.at_ = kk + 4) := by simpa using hb
              clear hb
              refine AW.seq ?_
              refine AW.region (At.start ?_)
              refine At.auto 1 (by kernel_rfl) ?_
              refine At.done rfl ?_
              refine AW.ret ?_
              refine ⟨_, Sub.refl _ _, ?_⟩
              refine KF.conv (fun w => .int .i64 w) (fun w => []) (show (-1) = (heldO a k) from by first | (rw [hR, dropCons he1, heldO, if_pos (by simp [okM, h1, h2, h3, h4, h5, h6]), if_pos (by assumption)]; done) | (rw [hR, dropCons he1, heldO, if_neg (by simp [okM, h1, h2, h3, h4, h5, h6])]; done) | (rw [hR, List.drop_of_length_le (by omega)]; rfl)) ?_
              exact KF.mk (.inr rfl) [] [.int .i64 (-1)] (by kernel_rfl) (by kernel_rfl) (by kernel_rfl) (by kernel_rfl) (by kernel_rfl)
            · have h6 : e1.msg.at_ = kk + 4 := by simpa using hb
              clear hb
              refine AW.skip ?_
              refine AW.seq ?_
              refine AW.region (At.start ?_)
              refine At.auto 2 (by kernel_rfl) ?_
              refine At.say 60 (.int .i64 (IntKind.i64.wrap ((kk + 4) + 1))) (.int .i64 (kk + 5)) (by kernel_rfl) (sayJ _ (by omega) (by omega)) ?_
              refine At.auto 1 (by kernel_rfl) ?_
              refine At.done rfl ?_
              refine AW.seq ?_
              refine AW.seq ?_
              refine AW.region (At.start ?_)
              refine At.auto 2 (by kernel_rfl) ?_
              refine At.idxSl (t := 29) (d := 63) (x := .tmp 61) (y := .tmp 62) (p := false) (es := 17) (xs := (a.map encOutV)) (kd := .i64) (i := (i : Int)) (e := 76) (by kernel_rfl) (by kernel_rfl) (by kernel_rfl) (by kernel_rfl) (by omega) (by first | omega | (simp only [List.length_map, List.length_append, List.length_take, List.length_drop, List.length_replicate, List.length_set, List.length_cons, List.length_nil]; omega)) ?_
              refine At.auto 2 (by kernel_rfl) ?_
              refine At.ldVp (t := 3) (d := 66) (x := .tmp 65) (p := false) (es := 17) (xs := (a.map encOutV)) (j := i) (off := 5) (b := false) (m := 1) (encOutV e1) (.int .i64 e1.msg.atTerm) (by kernel_rfl) (by kernel_rfl) (by kernel_rfl) (by kernel_rfl) (mapGet he1) (by kernel_rfl) ?_
              refine At.auto 2 (by kernel_rfl) ?_
              refine At.done rfl ?_
              refine AW.cond (e1.msg.atTerm != (kk + 5)) (by kernel_rfl) (fun hb => ?_) (fun hb => ?_)
              · have h7 : ¬ (e1.msg.atTerm = kk + 5) := by simpa using hb
                clear hb
                refine AW.seq ?_
                refine AW.region (At.start ?_)
                refine At.auto 1 (by kernel_rfl) ?_
                refine At.done rfl ?_
                refine AW.ret ?_
                refine ⟨_, Sub.refl _ _, ?_⟩
                refine KF.conv (fun w => .int .i64 w) (fun w => []) (show (-1) = (heldO a k) from by first | (rw [hR, dropCons he1, heldO, if_pos (by simp [okM, h1, h2, h3, h4, h5, h6, h7]), if_pos (by assumption)]; done) | (rw [hR, dropCons he1, heldO, if_neg (by simp [okM, h1, h2, h3, h4, h5, h6, h7])]; done) | (rw [hR, List.drop_of_length_le (by omega)]; rfl)) ?_
                exact KF.mk (.inr rfl) [] [.int .i64 (-1)] (by kernel_rfl) (by kernel_rfl) (by kernel_rfl) (by kernel_rfl) (by kernel_rfl)
              · have h7 : e1.msg.atTerm = kk + 5 := by simpa using hb
                clear hb
                refine AW.skip ?_
                refine AW.seq ?_
                refine AW.region (At.start ?_)
                refine At.auto 2 (by kernel_rfl) ?_
                refine At.say 70 (.int .i64 (IntKind.i64.wrap ((kk + 5) + 1))) (.int .i64 (kk + 6)) (by kernel_rfl) (sayJ _ (by omega) (by omega)) ?_
                refine At.auto 1 (by kernel_rfl) ?_
                refine At.done rfl ?_
                refine AW.seq ?_
                refine AW.seq ?_
                refine AW.region (At.start ?_)
                refine At.auto 2 (by kernel_rfl) ?_
                refine At.idxSl (t := 29) (d := 73) (x := .tmp 71) (y := .tmp 72) (p := false) (es := 17) (xs := (a.map encOutV)) (kd := .i64) (i := (i : Int)) (e := 76) (by kernel_rfl) (by kernel_rfl) (by kernel_rfl) (by kernel_rfl) (by omega) (by first | omega | (simp only [List.length_map, List.length_append, List.length_take, List.length_drop, List.length_replicate, List.length_set, List.length_cons, List.length_nil]; omega)) ?_
                refine At.auto 2 (by kernel_rfl) ?_
                refine At.ldVp (t := 3) (d := 76) (x := .tmp 75) (p := false) (es := 17) (xs := (a.map encOutV)) (j := i) (off := 6) (b := false) (m := 1) (encOutV e1) (.int .i64 e1.msg.commit) (by kernel_rfl) (by kernel_rfl) (by kernel_rfl) (by kernel_rfl) (mapGet he1) (by kernel_rfl) ?_
                refine At.auto 2 (by kernel_rfl) ?_
                refine At.done rfl ?_
                refine AW.cond (e1.msg.commit != (kk + 6)) (by kernel_rfl) (fun hb => ?_) (fun hb => ?_)
                · have h8 : ¬ (e1.msg.commit = kk + 6) := by simpa using hb
                  clear hb
                  refine AW.seq ?_
                  refine AW.region (At.start ?_)
                  refine At.auto 1 (by kernel_rfl) ?_
                  refine At.done rfl ?_
                  refine AW.ret ?_
                  refine ⟨_, Sub.refl _ _, ?_⟩
                  refine KF.conv (fun w => .int .i64 w) (fun w => []) (show (-1) = (heldO a k) from by first | (rw [hR, dropCons he1, heldO, if_pos (by simp [okM, h1, h2, h3, h4, h5, h6, h7, h8]), if_pos (by assumption)]; done) | (rw [hR, dropCons he1, heldO, if_neg (by simp [okM, h1, h2, h3, h4, h5, h6, h7, h8])]; done) | (rw [hR, List.drop_of_length_le (by omega)]; rfl)) ?_
                  exact KF.mk (.inr rfl) [] [.int .i64 (-1)] (by kernel_rfl) (by kernel_rfl) (by kernel_rfl) (by kernel_rfl) (by kernel_rfl)
                · have h8 : e1.msg.commit = kk + 6 := by simpa using hb
                  clear hb
                  refine AW.skip ?_
                  refine AW.seq ?_
                  refine AW.region (At.start ?_)
                  refine At.auto 2 (by kernel_rfl) ?_
                  refine At.say 80 (.int .i64 (IntKind.i64.wrap ((kk + 6) + 1))) (.int .i64 (kk + 7)) (by kernel_rfl) (sayJ _ (by omega) (by omega)) ?_
                  refine At.auto 1 (by kernel_rfl) ?_
                  refine At.done rfl ?_
                  refine AW.seq ?_
                  refine AW.seq ?_
                  refine AW.region (At.start ?_)
                  refine At.auto 2 (by kernel_rfl) ?_
                  refine At.idxSl (t := 29) (d := 83) (x := .tmp 81) (y := .tmp 82) (p := false) (es := 17) (xs := (a.map encOutV)) (kd := .i64) (i := (i : Int)) (e := 76) (by kernel_rfl) (by kernel_rfl) (by kernel_rfl) (by kernel_rfl) (by omega) (by first | omega | (simp only [List.length_map, List.length_append, List.length_take, List.length_drop, List.length_replicate, List.length_set, List.length_cons, List.length_nil]; omega)) ?_
                  refine At.auto 2 (by kernel_rfl) ?_
                  refine At.ldVp (t := 4) (d := 86) (x := .tmp 85) (p := false) (es := 17) (xs := (a.map encOutV)) (j := i) (off := 7) (b := false) (m := 1) (encOutV e1) (.bool e1.msg.yes) (by kernel_rfl) (by kernel_rfl) (by kernel_rfl) (by kernel_rfl) (mapGet he1) (by kernel_rfl) ?_
                  refine At.auto 1 (by kernel_rfl) ?_
                  refine At.div (t := 3) (u := 3) (d := 88) (op := .rem) (x := .tmp 87) (y := .const (.int .i64 3)) (kd := .i64) (a := kk + 7) (b := 3) (by kernel_rfl) (by kernel_rfl) (by kernel_rfl) (by kernel_rfl) (by omega) (.int .i64 ((kk + 7).tmod 3)) (.inr ⟨rfl, rfl⟩) ?_
                  refine At.say 88 (.int .i64 ((kk + 7).tmod 3)) (.int .i64 ((kk + 7) % 3)) (by kernel_rfl) (sayRem (by omega)) ?_
                  refine At.auto 1 (by kernel_rfl) ?_
                  refine At.eqB (t := 4) (u := 4) (d := 90) (op := .neq) (x := .tmp 86) (y := .tmp 89) (a := e1.msg.yes) (b := (((kk + 7) % 3) == 0)) (by kernel_rfl) (by kernel_rfl) (by kernel_rfl) (by kernel_rfl) (by kernel_rfl) (.bool (!(e1.msg.yes == (((kk + 7) % 3) == 0)))) (.inr ⟨rfl, rfl⟩) ?_
                  refine At.done rfl ?_
                  refine AW.cond (!(e1.msg.yes == (((kk + 7) % 3) == 0))) (by kernel_rfl) (fun hb => ?_) (fun hb => ?_)
                  · have h9 : (e1.msg.yes == (((kk + 7) % 3) == 0)) = false := by simpa using hb
                    clear hb
                    refine AW.seq ?_
                    refine AW.region (At.start ?_)
                    refine At.auto 1 (by kernel_rfl) ?_
                    refine At.done rfl ?_
                    refine AW.ret ?_
                    refine ⟨_, Sub.refl _ _, ?_⟩
                    refine KF.conv (fun w => .int .i64 w) (fun w => []) (show (-1) = (heldO a k) from by first | (rw [hR, dropCons he1, heldO, if_pos (by simp [okM, h1, h2, h3, h4, h5, h6, h7, h8, h9]), if_pos (by assumption)]; done) | (rw [hR, dropCons he1, heldO, if_neg (by simp [okM, h1, h2, h3, h4, h5, h6, h7, h8, h9])]; done) | (rw [hR, List.drop_of_length_le (by omega)]; rfl)) ?_
                    exact KF.mk (.inr rfl) [] [.int .i64 (-1)] (by kernel_rfl) (by kernel_rfl) (by kernel_rfl) (by kernel_rfl) (by kernel_rfl)
                  · have h9 : (e1.msg.yes == (((kk + 7) % 3) == 0)) = true := by simpa using hb
                    clear hb
                    refine AW.skip ?_
                    refine AW.seq ?_
                    refine AW.region (At.start ?_)
                    refine At.auto 2 (by kernel_rfl) ?_
                    refine At.say 92 (.int .i64 (IntKind.i64.wrap ((kk + 7) + 1))) (.int .i64 (kk + 8)) (by kernel_rfl) (sayJ _ (by omega) (by omega)) ?_
                    refine At.auto 1 (by kernel_rfl) ?_
                    refine At.done rfl ?_
                    refine AW.seq ?_
                    refine AW.seq ?_
                    refine AW.region (At.start ?_)
                    refine At.auto 2 (by kernel_rfl) ?_
                    refine At.idxSl (t := 29) (d := 95) (x := .tmp 93) (y := .tmp 94) (p := false) (es := 17) (xs := (a.map encOutV)) (kd := .i64) (i := (i : Int)) (e := 76) (by kernel_rfl) (by kernel_rfl) (by kernel_rfl) (by kernel_rfl) (by omega) (by first | omega | (simp only [List.length_map, List.length_append, List.length_take, List.length_drop, List.length_replicate, List.length_set, List.length_cons, List.length_nil]; omega)) ?_
                    refine At.auto 2 (by kernel_rfl) ?_
                    refine At.ldVp (t := 3) (d := 98) (x := .tmp 97) (p := false) (es := 17) (xs := (a.map encOutV)) (j := i) (off := 8) (b := false) (m := 1) (encOutV e1) (.int .i64 e1.msg.release) (by kernel_rfl) (by kernel_rfl) (by kernel_rfl) (by kernel_rfl) (mapGet he1) (by kernel_rfl) ?_
                    refine At.auto 2 (by kernel_rfl) ?_
                    refine At.done rfl ?_
                    refine AW.cond (e1.msg.release != (kk + 8)) (by kernel_rfl) (fun hb => ?_) (fun hb => ?_)
                    · have h10 : ¬ (e1.msg.release = kk + 8) := by simpa using hb
                      clear hb
                      refine AW.seq ?_
                      refine AW.region (At.start ?_)
                      refine At.auto 1 (by kernel_rfl) ?_
                      refine At.done rfl ?_
                      refine AW.ret ?_
                      refine ⟨_, Sub.refl _ _, ?_⟩
                      refine KF.conv (fun w => .int .i64 w) (fun w => []) (show (-1) = (heldO a k) from by first | (rw [hR, dropCons he1, heldO, if_pos (by simp [okM, h1, h2, h3, h4, h5, h6, h7, h8, h9, h10]), if_pos (by assumption)]; done) | (rw [hR, dropCons he1, heldO, if_neg (by simp [okM, h1, h2, h3, h4, h5, h6, h7, h8, h9, h10])]; done) | (rw [hR, List.drop_of_length_le (by omega)]; rfl)) ?_
                      exact KF.mk (.inr rfl) [] [.int .i64 (-1)] (by kernel_rfl) (by kernel_rfl) (by kernel_rfl) (by kernel_rfl) (by kernel_rfl)
                    · have h10 : e1.msg.release = kk + 8 := by simpa using hb
                      clear hb
                      refine AW.skip ?_
                      refine AW.seq ?_
                      refine AW.region (At.start ?_)
                      refine At.auto 2 (by kernel_rfl) ?_
                      refine At.say 102 (.int .i64 (IntKind.i64.wrap ((kk + 8) + 1))) (.int .i64 (kk + 9)) (by kernel_rfl) (sayJ _ (by omega) (by omega)) ?_
                      refine At.auto 1 (by kernel_rfl) ?_
                      refine At.done rfl ?_
                      refine AW.seq ?_
                      refine AW.seq ?_
                      refine AW.region (At.start ?_)
                      refine At.auto 2 (by kernel_rfl) ?_
                      refine At.idxSl (t := 29) (d := 105) (x := .tmp 103) (y := .tmp 104) (p := false) (es := 17) (xs := (a.map encOutV)) (kd := .i64) (i := (i : Int)) (e := 76) (by kernel_rfl) (by kernel_rfl) (by kernel_rfl) (by kernel_rfl) (by omega) (by first | omega | (simp only [List.length_map, List.length_append, List.length_take, List.length_drop, List.length_replicate, List.length_set, List.length_cons, List.length_nil]; omega)) ?_
                      refine At.auto 2 (by kernel_rfl) ?_
                      refine At.ldVp (t := 3) (d := 108) (x := .tmp 107) (p := false) (es := 17) (xs := (a.map encOutV)) (j := i) (off := 9) (b := false) (m := 1) (encOutV e1) (.int .i64 e1.msg.part) (by kernel_rfl) (by kernel_rfl) (by kernel_rfl) (by kernel_rfl) (mapGet he1) (by kernel_rfl) ?_
                      refine At.auto 2 (by kernel_rfl) ?_
                      refine At.done rfl ?_
                      refine AW.cond (e1.msg.part != (kk + 9)) (by kernel_rfl) (fun hb => ?_) (fun hb => ?_)
                      · have h11 : ¬ (e1.msg.part = kk + 9) := by simpa using hb
                        clear hb
                        refine AW.seq ?_
                        refine AW.region (At.start ?_)
                        refine At.auto 1 (by kernel_rfl) ?_
                        refine At.done rfl ?_
                        refine AW.ret ?_
                        refine ⟨_, Sub.refl _ _, ?_⟩
                        refine KF.conv (fun w => .int .i64 w) (fun w => []) (show (-1) = (heldO a k) from by first | (rw [hR, dropCons he1, heldO, if_pos (by simp [okM, h1, h2, h3, h4, h5, h6, h7, h8, h9, h10, h11]), if_pos (by assumption)]; done) | (rw [hR, dropCons he1, heldO, if_neg (by simp [okM, h1, h2, h3, h4, h5, h6, h7, h8, h9, h10, h11])]; done) | (rw [hR, List.drop_of_length_le (by omega)]; rfl)) ?_
                        exact KF.mk (.inr rfl) [] [.int .i64 (-1)] (by kernel_rfl) (by kernel_rfl) (by kernel_rfl) (by kernel_rfl) (by kernel_rfl)
                      · have h11 : e1.msg.part = kk + 9 := by simpa using hb
                        clear hb
                        refine AW.skip ?_
                        refine AW.seq ?_
                        refine AW.region (At.start ?_)
                        refine At.auto 2 (by kernel_rfl) ?_
                        refine At.say 112 (.int .i64 (IntKind.i64.wrap ((kk + 9) + 1))) (.int .i64 (kk + 10)) (by kernel_rfl) (sayJ _ (by omega) (by omega)) ?_
                        refine At.auto 1 (by kernel_rfl) ?_
                        refine At.done rfl ?_
                        refine AW.seq ?_
                        refine AW.seq ?_
                        refine AW.regionD Try_mix (At.start ?_)
                        refine At.auto 2 (by kernel_rfl) ?_
                        refine At.idxSl (t := 29) (d := 115) (x := .tmp 113) (y := .tmp 114) (p := false) (es := 17) (xs := (a.map encOutV)) (kd := .i64) (i := (i : Int)) (e := 76) (by kernel_rfl) (by kernel_rfl) (by kernel_rfl) (by kernel_rfl) (by omega) (by first | omega | (simp only [List.length_map, List.length_append, List.length_take, List.length_drop, List.length_replicate, List.length_set, List.length_cons, List.length_nil]; omega)) ?_
                        refine At.auto 2 (by kernel_rfl) ?_
                        refine At.ldVp (t := 9) (d := 118) (x := .tmp 117) (p := false) (es := 17) (xs := (a.map encOutV)) (j := i) (off := 10) (b := false) (m := 1) (encOutV e1) (.str e1.msg.bytes) (by kernel_rfl) (by kernel_rfl) (by kernel_rfl) (by kernel_rfl) (mapGet he1) (by kernel_rfl) ?_
                        refine At.auto 1 (by kernel_rfl) ?_
                        refine At.call (laws_markText_spec  (kk + 10) (by first | omega | (dsimp only; omega) | (simp only [List.length_map, List.length_append, List.length_take, List.length_drop, List.length_replicate, List.length_set, List.length_cons, List.length_nil]; omega))) Try.call48 true [] [] [] (by kernel_rfl) (by kernel_rfl) (by kernel_rfl) (by kernel_rfl) (by kernel_rfl) trivial ?_
                        refine At.auto 1 (by kernel_rfl) ?_
                        refine At.done rfl ⟨by kernel_rfl, ?_⟩
                        refine AW.cond (!(e1.msg.bytes.toList == (markT (kk + 10)).toList)) (by kernel_rfl) (fun hb => ?_) (fun hb => ?_)
                        · have h12 : ¬ (e1.msg.bytes.toList = (markT (kk + 10)).toList) := by simpa using hb
                          clear hb
                          refine AW.seq ?_
                          refine AW.region (At.start ?_)
                          refine At.auto 1 (by kernel_rfl) ?_
                          refine At.done rfl ?_
                          refine AW.ret ?_
                          refine ⟨_, Sub.refl _ _, ?_⟩
                          refine KF.conv (fun w => .int .i64 w) (fun w => []) (show (-1) = (heldO a k) from by first | (rw [hR, dropCons he1, heldO, if_pos (by simp [okM, h1, h2, h3, h4, h5, h6, h7, h8, h9, h10, h11, h12]), if_pos (by assumption)]; done) | (rw [hR, dropCons he1, heldO, if_neg (by simp [okM, h1, h2, h3, h4, h5, h6, h7, h8, h9, h10, h11, h12])]; done) | (rw [hR, List.drop_of_length_le (by omega)]; rfl)) ?_
                          exact KF.mk (.inr rfl) [] [.int .i64 (-1)] (by kernel_rfl) (by kernel_rfl) (by kernel_rfl) (by kernel_rfl) (by kernel_rfl)
                        · have h12 : e1.msg.bytes.toList = (markT (kk + 10)).toList := by simpa using hb
                          clear hb
                          refine AW.skip ?_
                          refine AW.seq ?_
                          refine AW.region (At.start ?_)
                          refine At.auto 2 (by kernel_rfl) ?_
                          refine At.say 123 (.int .i64 (IntKind.i64.wrap ((kk + 10) + 1))) (.int .i64 (kk + 11)) (by kernel_rfl) (sayJ _ (by omega) (by omega)) ?_
                          refine At.auto 1 (by kernel_rfl) ?_
                          refine At.done rfl ?_
                          refine AW.seq ?_
                          refine AW.seq ?_
                          refine AW.region (At.start ?_)
                          refine At.auto 2 (by kernel_rfl) ?_
                          refine At.idxSl (t := 29) (d := 126) (x := .tmp 124) (y := .tmp 125) (p := false) (es := 17) (xs := (a.map encOutV)) (kd := .i64) (i := (i : Int)) (e := 76) (by kernel_rfl) (by kernel_rfl) (by kernel_rfl) (by kernel_rfl) (by omega) (by first | omega | (simp only [List.length_map, List.length_append, List.length_take, List.length_drop, List.length_replicate, List.length_set, List.length_cons, List.length_nil]; omega)) ?_
                          refine At.auto 3 (by kernel_rfl) ?_
                          refine At.ldVp (t := 3) (d := 130) (x := .tmp 129) (p := false) (es := 17) (xs := (a.map encOutV)) (j := i) (off := 11) (b := false) (m := 1) (encOutV e1) (.int .i64 e1.msg.cmd.kind) (by kernel_rfl) (by kernel_rfl) (by kernel_rfl) (by kernel_rfl) (mapGet he1) (by kernel_rfl) ?_
                          refine At.auto 2 (by kernel_rfl) ?_
                          refine At.done rfl ?_
                          refine AW.cond (e1.msg.cmd.kind != (kk + 11)) (by kernel_rfl) (fun hb => ?_) (fun hb => ?_)
                          · have h13 : ¬ (e1.msg.cmd.kind = kk + 11) := by simpa using hb
                            clear hb
                            refine AW.seq ?_
                            refine AW.region (At.start ?_)
                            refine At.auto 1 (by kernel_rfl) ?_
                            refine At.done rfl ?_
                            refine AW.ret ?_
                            refine ⟨_, Sub.refl _ _, ?_⟩
                            refine KF.conv (fun w => .int .i64 w) (fun w => []) (show (-1) = (heldO a k) from by first | (rw [hR, dropCons he1, heldO, if_pos (by simp [okM, h1, h2, h3, h4, h5, h6, h7, h8, h9, h10, h11, h12, h13]), if_pos (by assumption)]; done) | (rw [hR, dropCons he1, heldO, if_neg (by simp [okM, h1, h2, h3, h4, h5, h6, h7, h8, h9, h10, h11, h12, h13])]; done) | (rw [hR, List.drop_of_length_le (by omega)]; rfl)) ?_
                            exact KF.mk (.inr rfl) [] [.int .i64 (-1)] (by kernel_rfl) (by kernel_rfl) (by kernel_rfl) (by kernel_rfl) (by kernel_rfl)
                          · have h13 : e1.msg.cmd.kind = kk + 11 := by simpa using hb
                            clear hb
                            refine AW.skip ?_
                            refine AW.seq ?_
                            refine AW.region (At.start ?_)
                            refine At.auto 2 (by kernel_rfl) ?_
                            refine At.say 134 (.int .i64 (IntKind.i64.wrap ((kk + 11) + 1))) (.int .i64 (kk + 12)) (by kernel_rfl) (sayJ _ (by omega) (by omega)) ?_
                            refine At.auto 1 (by kernel_rfl) ?_
                            refine At.done rfl ?_
                            refine AW.seq ?_
                            refine AW.seq ?_
                            refine AW.region (At.start ?_)
                            refine At.auto 2 (by kernel_rfl) ?_
                            refine At.idxSl (t := 29) (d := 137) (x := .tmp 135) (y := .tmp 136) (p := false) (es := 17) (xs := (a.map encOutV)) (kd := .i64) (i := (i : Int)) (e := 76) (by kernel_rfl) (by kernel_rfl) (by kernel_rfl) (by kernel_rfl) (by omega) (by first | omega | (simp only [List.length_map, List.length_append, List.length_take, List.length_drop, List.length_replicate, List.length_set, List.length_cons, List.length_nil]; omega)) ?_
                            refine At.auto 3 (by kernel_rfl) ?_
                            refine At.ldVp (t := 3) (d := 141) (x := .tmp 140) (p := false) (es := 17) (xs := (a.map encOutV)) (j := i) (off := 12) (b := false) (m := 1) (encOutV e1) (.int .i64 e1.msg.cmd.release) (by kernel_rfl) (by kernel_rfl) (by kernel_rfl) (by kernel_rfl) (mapGet he1) (by kernel_rfl) ?_
                            refine At.auto 2 (by kernel_rfl) ?_
                            refine At.done rfl ?_
                            refine AW.cond (e1.msg.cmd.release != (kk + 12)) (by kernel_rfl) (fun hb => ?_) (fun hb => ?_)
                            · have h14 : ¬ (e1.msg.cmd.release = kk + 12) := by simpa using hb
                              clear hb
                              refine AW.seq ?_
                              refine AW.region (At.start ?_)
                              refine At.auto 1 (by kernel_rfl) ?_
                              refine At.done rfl ?_
                              refine AW.ret ?_
                              refine ⟨_, Sub.refl _ _, ?_⟩
                              refine KF.conv (fun w => .int .i64 w) (fun w => []) (show (-1) = (heldO a k) from by first | (rw [hR, dropCons he1, heldO, if_pos (by simp [okM, h1, h2, h3, h4, h5, h6, h7, h8, h9, h10, h11, h12, h13, h14]), if_pos (by assumption)]; done) | (rw [hR, dropCons he1, heldO, if_neg (by simp [okM, h1, h2, h3, h4, h5, h6, h7, h8, h9, h10, h11, h12, h13, h14])]; done) | (rw [hR, List.drop_of_length_le (by omega)]; rfl)) ?_
                              exact KF.mk (.inr rfl) [] [.int .i64 (-1)] (by kernel_rfl) (by kernel_rfl) (by kernel_rfl) (by kernel_rfl) (by kernel_rfl)
                            · have h14 : e1.msg.cmd.release = kk + 12 := by simpa using hb
                              clear hb
                              refine AW.skip ?_
                              refine AW.seq ?_
                              refine AW.region (At.start ?_)
                              refine At.auto 2 (by kernel_rfl) ?_
                              refine At.say 145 (.int .i64 (IntKind.i64.wrap ((kk + 12) + 1))) (.int .i64 (kk + 13)) (by kernel_rfl) (sayJ _ (by omega) (by omega)) ?_
                              refine At.auto 1 (by kernel_rfl) ?_
                              refine At.done rfl ?_
                              refine AW.seq ?_
                              refine AW.seq ?_
                              refine AW.region (At.start ?_)
                              refine At.auto 2 (by kernel_rfl) ?_
                              refine At.idxSl (t := 29) (d := 148) (x := .tmp 146) (y := .tmp 147) (p := false) (es := 17) (xs := (a.map encOutV)) (kd := .i64) (i := (i : Int)) (e := 76) (by kernel_rfl) (by kernel_rfl) (by kernel_rfl) (by kernel_rfl) (by omega) (by first | omega | (simp only [List.length_map, List.length_append, List.length_take, List.length_drop, List.length_replicate, List.length_set, List.length_cons, List.length_nil]; omega)) ?_
                              refine At.auto 3 (by kernel_rfl) ?_
                              refine At.ldVp (t := 3) (d := 152) (x := .tmp 151) (p := false) (es := 17) (xs := (a.map encOutV)) (j := i) (off := 13) (b := false) (m := 1) (encOutV e1) (.int .i64 e1.msg.cmd.node) (by kernel_rfl) (by kernel_rfl) (by kernel_rfl) (by kernel_rfl) (mapGet he1) (by kernel_rfl) ?_
                              refine At.auto 2 (by kernel_rfl) ?_
                              refine At.done rfl ?_
                              refine AW.cond (e1.msg.cmd.node != (kk + 13)) (by kernel_rfl) (fun hb => ?_) (fun hb => ?_)
                              · have h15 : ¬ (e1.msg.cmd.node = kk + 13) := by simpa using hb
                                clear hb
                                refine AW.seq ?_
                                refine AW.region (At.start ?_)
                                refine At.auto 1 (by kernel_rfl) ?_
                                refine At.done rfl ?_
                                refine AW.ret ?_
                                refine ⟨_, Sub.refl _ _, ?_⟩
                                refine KF.conv (fun w => .int .i64 w) (fun w => []) (show (-1) = (heldO a k) from by first | (rw [hR, dropCons he1, heldO, if_pos (by simp [okM, h1, h2, h3, h4, h5, h6, h7, h8, h9, h10, h11, h12, h13, h14, h15]), if_pos (by assumption)]; done) | (rw [hR, dropCons he1, heldO, if_neg (by simp [okM, h1, h2, h3, h4, h5, h6, h7, h8, h9, h10, h11, h12, h13, h14, h15])]; done) | (rw [hR, List.drop_of_length_le (by omega)]; rfl)) ?_
                                exact KF.mk (.inr rfl) [] [.int .i64 (-1)] (by kernel_rfl) (by kernel_rfl) (by kernel_rfl) (by kernel_rfl) (by kernel_rfl)
                              · have h15 : e1.msg.cmd.node = kk + 13 := by simpa using hb
                                clear hb
                                refine AW.skip ?_
                                refine AW.seq ?_
                                refine AW.region (At.start ?_)
                                refine At.auto 2 (by kernel_rfl) ?_
                                refine At.say 156 (.int .i64 (IntKind.i64.wrap ((kk + 13) + 1))) (.int .i64 (kk + 14)) (by kernel_rfl) (sayJ _ (by omega) (by omega)) ?_
                                refine At.auto 1 (by kernel_rfl) ?_
                                refine At.done rfl ?_
                                refine AW.seq ?_
                                refine AW.seq ?_
                                refine AW.region (At.start ?_)
                                refine At.auto 2 (by kernel_rfl) ?_
                                refine At.idxSl (t := 29) (d := 159) (x := .tmp 157) (y := .tmp 158) (p := false) (es := 17) (xs := (a.map encOutV)) (kd := .i64) (i := (i : Int)) (e := 76) (by kernel_rfl) (by kernel_rfl) (by kernel_rfl) (by kernel_rfl) (by omega) (by first | omega | (simp only [List.length_map, List.length_append, List.length_take, List.length_drop, List.length_replicate, List.length_set, List.length_cons, List.length_nil]; omega)) ?_
                                refine At.auto 3 (by kernel_rfl) ?_
                                refine At.ldVp (t := 3) (d := 163) (x := .tmp 162) (p := false) (es := 17) (xs := (a.map encOutV)) (j := i) (off := 14) (b := false) (m := 1) (encOutV e1) (.int .i64 e1.msg.cmd.size) (by kernel_rfl) (by kernel_rfl) (by kernel_rfl) (by kernel_rfl) (mapGet he1) (by kernel_rfl) ?_
                                refine At.auto 2 (by kernel_rfl) ?_
                                refine At.done rfl ?_
                                refine AW.cond (e1.msg.cmd.size != (kk + 14)) (by kernel_rfl) (fun hb => ?_) (fun hb => ?_)
                                · have h16 : ¬ (e1.msg.cmd.size = kk + 14) := by simpa using hb
                                  clear hb
                                  refine AW.seq ?_
                                  refine AW.region (At.start ?_)
                                  refine At.auto 1 (by kernel_rfl) ?_
                                  refine At.done rfl ?_
                                  refine AW.ret ?_
                                  refine ⟨_, Sub.refl _ _, ?_⟩
                                  refine KF.conv (fun w => .int .i64 w) (fun w => []) (show (-1) = (heldO a k) from by first | (rw [hR, dropCons he1, heldO, if_pos (by simp [okM, h1, h2, h3, h4, h5, h6, h7, h8, h9, h10, h11, h12, h13, h14, h15, h16]), if_pos (by assumption)]; done) | (rw [hR, dropCons he1, heldO, if_neg (by simp [okM, h1, h2, h3, h4, h5, h6, h7, h8, h9, h10, h11, h12, h13, h14, h15, h16])]; done) | (rw [hR, List.drop_of_length_le (by omega)]; rfl)) ?_
                                  exact KF.mk (.inr rfl) [] [.int .i64 (-1)] (by kernel_rfl) (by kernel_rfl) (by kernel_rfl) (by kernel_rfl) (by kernel_rfl)
                                · have h16 : e1.msg.cmd.size = kk + 14 := by simpa using hb
                                  clear hb
                                  refine AW.skip ?_
                                  refine AW.seq ?_
                                  refine AW.region (At.start ?_)
                                  refine At.auto 2 (by kernel_rfl) ?_
                                  refine At.say 167 (.int .i64 (IntKind.i64.wrap ((kk + 14) + 1))) (.int .i64 (kk + 15)) (by kernel_rfl) (sayJ _ (by omega) (by omega)) ?_
                                  refine At.auto 1 (by kernel_rfl) ?_
                                  refine At.done rfl ?_
                                  refine AW.seq ?_
                                  refine AW.seq ?_
                                  refine AW.regionD Try_mix (At.start ?_)
                                  refine At.auto 2 (by kernel_rfl) ?_
                                  refine At.idxSl (t := 29) (d := 170) (x := .tmp 168) (y := .tmp 169) (p := false) (es := 17) (xs := (a.map encOutV)) (kd := .i64) (i := (i : Int)) (e := 76) (by kernel_rfl) (by kernel_rfl) (by kernel_rfl) (by kernel_rfl) (by omega) (by first | omega | (simp only [List.length_map, List.length_append, List.length_take, List.length_drop, List.length_replicate, List.length_set, List.length_cons, List.length_nil]; omega)) ?_
                                  refine At.auto 3 (by kernel_rfl) ?_
                                  refine At.ldVp (t := 9) (d := 174) (x := .tmp 173) (p := false) (es := 17) (xs := (a.map encOutV)) (j := i) (off := 15) (b := false) (m := 1) (encOutV e1) (.str e1.msg.cmd.digest) (by kernel_rfl) (by kernel_rfl) (by kernel_rfl) (by kernel_rfl) (mapGet he1) (by kernel_rfl) ?_
                                  refine At.auto 1 (by kernel_rfl) ?_
                                  refine At.call (laws_markText_spec  (kk + 15) (by first | omega | (dsimp only; omega) | (simp only [List.length_map, List.length_append, List.length_take, List.length_drop, List.length_replicate, List.length_set, List.length_cons, List.length_nil]; omega))) Try.call48 true [] [] [] (by kernel_rfl) (by kernel_rfl) (by kernel_rfl) (by kernel_rfl) (by kernel_rfl) trivial ?_
                                  refine At.auto 1 (by kernel_rfl) ?_
                                  refine At.done rfl ⟨by kernel_rfl, ?_⟩
                                  refine AW.cond (!(e1.msg.cmd.digest.toList == (markT (kk + 15)).toList)) (by kernel_rfl) (fun hb => ?_) (fun hb => ?_)
                                  · have h17 : ¬ (e1.msg.cmd.digest.toList = (markT (kk + 15)).toList) := by simpa using hb
                                    clear hb
                                    refine AW.seq ?_
                                    refine AW.region (At.start ?_)
                                    refine At.auto 1 (by kernel_rfl) ?_
                                    refine At.done rfl ?_
                                    refine AW.ret ?_
                                    refine ⟨_, Sub.refl _ _, ?_⟩
                                    refine KF.conv (fun w => .int .i64 w) (fun w => []) (show (-1) = (heldO a k) from by first | (rw [hR, dropCons he1, heldO, if_pos (by simp [okM, h1, h2, h3, h4, h5, h6, h7, h8, h9, h10, h11, h12, h13, h14, h15, h16, h17]), if_pos (by assumption)]; done) | (rw [hR, dropCons he1, heldO, if_neg (by simp [okM, h1, h2, h3, h4, h5, h6, h7, h8, h9, h10, h11, h12, h13, h14, h15, h16, h17])]; done) | (rw [hR, List.drop_of_length_le (by omega)]; rfl)) ?_
                                    exact KF.mk (.inr rfl) [] [.int .i64 (-1)] (by kernel_rfl) (by kernel_rfl) (by kernel_rfl) (by kernel_rfl) (by kernel_rfl)
                                  · have h17 : e1.msg.cmd.digest.toList = (markT (kk + 15)).toList := by simpa using hb
                                    clear hb
                                    refine AW.skip ?_
                                    refine AW.seq ?_
                                    refine AW.region (At.start ?_)
                                    refine At.auto 2 (by kernel_rfl) ?_
                                    refine At.say 179 (.int .i64 (IntKind.i64.wrap ((kk + 15) + 1))) (.int .i64 (kk + 16)) (by kernel_rfl) (sayJ _ (by omega) (by omega)) ?_
                                    refine At.auto 1 (by kernel_rfl) ?_
                                    refine At.done rfl ?_
                                    refine AW.seq ?_
                                    refine AW.region (At.start ?_)
                                    refine At.auto 2 (by kernel_rfl) ?_
                                    refine At.idxSl (t := 29) (d := 182) (x := .tmp 180) (y := .tmp 181) (p := false) (es := 17) (xs := (a.map encOutV)) (kd := .i64) (i := (i : Int)) (e := 76) (by kernel_rfl) (by kernel_rfl) (by kernel_rfl) (by kernel_rfl) (by omega) (by first | omega | (simp only [List.length_map, List.length_append, List.length_take, List.length_drop, List.length_replicate, List.length_set, List.length_cons, List.length_nil]; omega)) ?_
                                    refine At.auto 2 (by kernel_rfl) ?_
                                    refine At.ldVp (t := 31) (d := 185) (x := .tmp 184) (p := false) (es := 17) (xs := (a.map encOutV)) (j := i) (off := 16) (b := false) (m := 1) (encOutV e1) (.sl false 6 (e1.msg.entries.map encEnt)) (by kernel_rfl) (by kernel_rfl) (by kernel_rfl) (by kernel_rfl) (mapGet he1) (by kernel_rfl) ?_
                                    refine At.auto 1 (by kernel_rfl) ?_
                                    refine At.call (laws_heldEntryS_spec  e1.msg.entries (kk + 16) (by first | omega | (dsimp only; omega) | (simp only [List.length_map, List.length_append, List.length_take, List.length_drop, List.length_replicate, List.length_set, List.length_cons, List.length_nil]; omega)) (by first | omega | (dsimp only; omega) | (simp only [List.length_map, List.length_append, List.length_take, List.length_drop, List.length_replicate, List.length_set, List.length_cons, List.length_nil]; omega))) Try.call50 true [] [] [] (by kernel_rfl) (by kernel_rfl) (by kernel_rfl) (by kernel_rfl) (by kernel_rfl) trivial ?_
                                    have hhe := heldE_le e1.msg.entries (kk + 16) (by omega)
                                    refine At.auto 1 (by kernel_rfl) ?_
                                    refine At.done rfl ?_
                                    refine AW.seq ?_
                                    refine AW.region (At.start ?_)
                                    refine At.auto 2 (by kernel_rfl) ?_
                                    refine At.done rfl ?_
                                    refine AW.cond (decide ((held okE nxE e1.msg.entries (kk + 16)) < 0)) (by kernel_rfl) (fun hb => ?_) (fun hb => ?_)
                                    · have h18 : (held okE nxE e1.msg.entries (kk + 16)) < 0 := by simpa using hb
                                      clear hb
                                      refine AW.seq ?_
                                      refine AW.region (At.start ?_)
                                      refine At.auto 1 (by kernel_rfl) ?_
                                      refine At.done rfl ?_
                                      refine AW.ret ?_
                                      refine ⟨_, Sub.refl _ _, ?_⟩
                                      refine KF.conv (fun w => .int .i64 w) (fun w => []) (show (-1) = (heldO a k) from by first | (rw [hR, dropCons he1, heldO, if_pos (by simp [okM, h1, h2, h3, h4, h5, h6, h7, h8, h9, h10, h11, h12, h13, h14, h15, h16, h17, h18]), if_pos (by assumption)]; done) | (rw [hR, dropCons he1, heldO, if_neg (by simp [okM, h1, h2, h3, h4, h5, h6, h7, h8, h9, h10, h11, h12, h13, h14, h15, h16, h17, h18])]; done) | (rw [hR, List.drop_of_length_le (by omega)]; rfl)) ?_
                                      exact KF.mk (.inr rfl) [] [.int .i64 (-1)] (by kernel_rfl) (by kernel_rfl) (by kernel_rfl) (by kernel_rfl) (by kernel_rfl)
                                    · have h18 : ¬ ((held okE nxE e1.msg.entries (kk + 16)) < 0) := by simpa using hb
                                      clear hb
                                      refine AW.skip ?_
                                      refine AW.region (At.start ?_)
                                      refine At.auto 2 (by kernel_rfl) ?_
                                      refine At.say 11 (.int .i64 (IntKind.i64.wrap ((i : Int) + 1))) (.int .i64 ((i : Int) + 1)) (by kernel_rfl) (sayI _ (by omega)) ?_
                                      refine At.auto 1 (by kernel_rfl) ?_
                                      refine At.done rfl ?_
                                      exact ⟨(i + 1, (held okE nxE e1.msg.entries (kk + 16))), ⟨by omega, by omega, by omega, by rw [hR, dropCons he1, heldO, if_pos (by simp [okM, h1, h2, h3, h4, h5, h6, h7, h8, h9, h10, h11, h12, h13, h14, h15, h16, h17, h18]), if_neg (by assumption)]⟩, (by simp only; omega), Sub.of [] [true, true, false, false, false, true] _ _ (by kernel_rfl) (by kernel_rfl) (by kernel_rfl)⟩
  · have h1 : ¬ ((i : Int) < (a.length : Int)) := by simpa using hb
    clear hb
    refine AW.exit ?_
    refine AW.seq ?_
    refine AW.region (At.start ?_)
    refine At.auto 2 (by kernel_rfl) ?_
    refine At.done rfl ?_
    refine AW.ret ?_
    refine ⟨_, Sub.refl _ _, ?_⟩
    refine KF.conv (fun w => .int .i64 w) (fun w => []) (show (kk) = (heldO a k) from by first | (rw [hR, dropCons he1, heldO, if_pos (by simp [okM, h1]), if_pos (by assumption)]; done) | (rw [hR, dropCons he1, heldO, if_neg (by simp [okM, h1])]; done) | (rw [hR, List.drop_of_length_le (by omega)]; rfl)) ?_
    exact KF.mk (.inr rfl) [] [.int .i64 kk] (by kernel_rfl) (by kernel_rfl) (by kernel_rfl) (by kernel_rfl) (by kernel_rfl)
set_option maxRecDepth 100000 in
set_option maxHeartbeats 4000000 in
theorem laws_FnExactRaftBeat_spec  (aR : Raft) (hb : BigR aR) : FnSpec Try.prog 3 [.agg [.int .i64 aR.id, .int .i64 aR.of_, .int .i64 aR.role, .int .i64 aR.commit, .int .i64 aR.hard.term, .int .i64 aR.hard.vote, .sl false 6 (aR.hard.log.map encEnt), .sl false 1 (aR.yes.map encI), .sl false 1 (aR.next.map encI), .sl false 1 (aR.match_.map encI)]] [] (.bool true) [] := by
  refine FnSpec.of 69 Try.func3 rfl Try.ntmps3 (by simp) (AW.weakK ?_)
  refine AW.seq ?_
  refine AW.region (At.start ?_)
  refine At.auto 2 (by kernel_rfl) ?_
  refine At.done rfl ?_
  refine AW.seq ?_
  refine AW.region (At.start ?_)
  refine At.auto 1 (by kernel_rfl) ?_
  refine At.done rfl ?_
  refine AW.seq ?_
  refine AW.region (At.start ?_)
  refine At.auto 2 (by kernel_rfl) ?_
  refine At.call (laws_szRaft_spec  aR 1048576 (by first | omega | (dsimp only; omega) | (simp only [List.length_map, List.length_append, List.length_take, List.length_drop, List.length_replicate, List.length_set, List.length_cons, List.length_nil]; omega)) hb) Try.call7 true [] [] [] (by kernel_rfl) (by kernel_rfl) (by kernel_rfl) (by kernel_rfl) (by kernel_rfl) trivial ?_
  refine At.auto 1 (by kernel_rfl) ?_
  refine At.done rfl ?_
  refine AW.seq ?_
  refine AW.seq ?_
  refine AW.region (At.start ?_)
  refine At.auto 2 (by kernel_rfl) ?_
  refine At.done rfl ?_
  refine AW.cond (decide ((szRaft aR 1048576) < 0)) (by kernel_rfl) (fun hb => ?_) (fun hb => ?_)
  · have h1 : (szRaft aR 1048576) < 0 := by simpa using hb
    clear hb
    refine AW.seq ?_
    refine AW.region (At.start ?_)
    refine At.auto 1 (by kernel_rfl) ?_
    refine At.done rfl ?_
    refine AW.ret ?_
    refine ⟨_, Sub.refl _ _, ?_⟩
    exact KF.mk (.inr rfl) [] [.bool true] (by kernel_rfl) (by kernel_rfl) (by kernel_rfl) (by kernel_rfl) (by kernel_rfl)
  · have h1 : ¬ ((szRaft aR 1048576) < 0) := by simpa using hb
    clear hb
    have hz := (szRaft_small (by omega) h1).1
    have hfew := beat_few aR
    have hmf := hfew.marks 1
    have hme := hfew.ends 1
    have hke := raftEnd_eq aR 1
    obtain ⟨z1, z2, z3, z4⟩ := id hz
    refine AW.skip ?_
    refine AW.seq ?_
    refine AW.region (At.start ?_)
    refine At.auto 1 (by kernel_rfl) ?_
    refine At.call (laws_toRaft_spec  aR hz) Try.call9 true [] [(1340, 0), (1341, 1), (1342, 2), (1343, 3)] [] (by kernel_rfl) (by kernel_rfl) (by kernel_rfl) (by kernel_rfl) (by kernel_rfl) trivial ?_
    refine At.call (spec_RaftBeat_spec  aR hz) Try.call8 false [] [(1360, 0)] [(1340, 6, (aR.hard.log.map encEnt)), (1341, 1, (aR.yes.map encI)), (1342, 1, (aR.next.map encI)), (1343, 1, (aR.match_.map encI))] (by kernel_rfl) (by kernel_rfl) (by kernel_rfl) (by kernel_rfl) (by kernel_rfl) ⟨rfl, ⟨88, (aR.hard.log.map encEnt), by kernel_rfl, FrzIs.same (allP_encEnt _)⟩, rfl, ⟨3, (aR.yes.map encI), by kernel_rfl, FrzIs.same (allP_encI _)⟩, rfl, ⟨3, (aR.next.map encI), by kernel_rfl, FrzIs.same (allP_encI _)⟩, rfl, ⟨3, (aR.match_.map encI), by kernel_rfl, FrzIs.same (allP_encI _)⟩, trivial⟩ ?_
    refine At.auto 1 (by kernel_rfl) ?_
    refine At.done rfl ?_
    refine AW.seq ?_
    refine AW.region (At.start ?_)
    refine At.auto 1 (by kernel_rfl) ?_
    refine At.call (laws_toRaft_spec  aR hz) Try.call9 true [] [(1400, 0), (1401, 1), (1402, 2), (1403, 3)] [] (by kernel_rfl) (by kernel_rfl) (by kernel_rfl) (by kernel_rfl) (by kernel_rfl) trivial ?_
    refine At.auto 2 (by kernel_rfl) ?_
    refine At.done rfl ?_
    refine AW.seq ?_
    refine AW.region (At.start ?_)
    refine At.auto 1 (by kernel_rfl) ?_
    refine At.call (impl_RaftBeat_spec  aR hz) Try.call10 false [] [(1440, 0)] [(1400, 6, (aR.hard.log.map encEnt)), (1401, 1, (aR.yes.map encI)), (1402, 1, (aR.next.map encI)), (1403, 1, (aR.match_.map encI))] (by kernel_rfl) (by kernel_rfl) (by kernel_rfl) (by kernel_rfl) (by kernel_rfl) ⟨rfl, ⟨88, (aR.hard.log.map encEnt), by kernel_rfl, FrzIs.same (allP_encEnt _)⟩, rfl, ⟨3, (aR.yes.map encI), by kernel_rfl, FrzIs.same (allP_encI _)⟩, rfl, ⟨3, (aR.next.map encI), by kernel_rfl, FrzIs.same (allP_encI _)⟩, rfl, ⟨3, (aR.match_.map encI), by kernel_rfl, FrzIs.same (allP_encI _)⟩, trivial⟩ ?_
    refine At.auto 1 (by kernel_rfl) ?_
    refine At.done rfl ?_
    refine AW.seq ?_
    refine AW.seq ?_
    refine AW.region (At.start ?_)
    refine At.auto 2 (by kernel_rfl) ?_
    refine At.call (laws_eqOutS_spec  (beat aR) (beat aR) (by have := hfew.1; omega) (by have := hfew.1; omega) (fun o ho => by have := hfew.2 o ho; omega) (fun o ho => by have := hfew.2 o ho; omega)) Try.call11 false [] [] [(1440, 17, ((beat aR).map encOutV)), (1360, 17, ((beat aR).map encOutV))] (by kernel_rfl) (by kernel_rfl) (by kernel_rfl) (by kernel_rfl) (by kernel_rfl) ⟨rfl, ⟨76, ((beat aR).map encOut), by kernel_rfl, frzOut _⟩, rfl, ⟨76, ((beat aR).map encOut), by kernel_rfl, frzOut _⟩, trivial⟩ ?_
    refine At.auto 1 (by kernel_rfl) ?_
    refine At.done rfl ?_
    refine AW.condF (!(listEq outEq (beat aR) (beat aR))) (by kernel_rfl) (by rw [(listEq_refl outEq_refl _)]; rfl) ?_
    refine AW.skip ?_
    refine AW.seq ?_
    refine AW.seq ?_
    refine AW.regionD Try_mix (At.start ?_)
    refine At.auto 2 (by kernel_rfl) ?_
    refine At.call (laws_toRaft_spec  aR hz) Try.call9 true [] [(1580, 0), (1581, 1), (1582, 2), (1583, 3)] [] (by kernel_rfl) (by kernel_rfl) (by kernel_rfl) (by kernel_rfl) (by kernel_rfl) trivial ?_
    refine At.call (laws_eqRaft_spec  aR aR hz hz) Try.call12 false [] [] [(1400, 6, (aR.hard.log.map encEnt)), (1401, 1, (aR.yes.map encI)), (1402, 1, (aR.next.map encI)), (1403, 1, (aR.match_.map encI)), (1580, 6, (aR.hard.log.map encEnt)), (1581, 1, (aR.yes.map encI)), (1582, 1, (aR.next.map encI)), (1583, 1, (aR.match_.map encI))] (by kernel_rfl) (by kernel_rfl) (by kernel_rfl) (by kernel_rfl) (by kernel_rfl) ⟨rfl, ⟨88, (aR.hard.log.map encEnt), by kernel_rfl, FrzIs.same (allP_encEnt _)⟩, rfl, ⟨3, (aR.yes.map encI), by kernel_rfl, FrzIs.same (allP_encI _)⟩, rfl, ⟨3, (aR.next.map encI), by kernel_rfl, FrzIs.same (allP_encI _)⟩, rfl, ⟨3, (aR.match_.map encI), by kernel_rfl, FrzIs.same (allP_encI _)⟩, rfl, ⟨88, (aR.hard.log.map encEnt), by kernel_rfl, FrzIs.same (allP_encEnt _)⟩, rfl, ⟨3, (aR.yes.map encI), by kernel_rfl, FrzIs.same (allP_encI _)⟩, rfl, ⟨3, (aR.next.map encI), by kernel_rfl, FrzIs.same (allP_encI _)⟩, rfl, ⟨3, (aR.match_.map encI), by kernel_rfl, FrzIs.same (allP_encI _)⟩, trivial⟩ ?_
    refine At.auto 1 (by kernel_rfl) ?_
    refine At.done rfl ⟨by kernel_rfl, ?_⟩
    refine AW.condF (!(raftEq aR aR)) (by kernel_rfl) (by rw [(raftEq_refl _)]; rfl) ?_
    refine AW.skip ?_
    refine AW.seq ?_
    refine AW.region (At.start ?_)
    refine At.auto 1 (by kernel_rfl) ?_
    refine At.done rfl ?_
    refine AW.seq ?_
    refine AW.region (At.start ?_)
    refine At.auto 2 (by kernel_rfl) ?_
    refine At.call (laws_markRaft_spec  aR 1 hz (by first | omega | (dsimp only; omega) | (simp only [List.length_map, List.length_append, List.length_take, List.length_drop, List.length_replicate, List.length_set, List.length_cons, List.length_nil]; omega))) Try.call13 true [(1400, 0), (1401, 1), (1402, 2), (1403, 3)] [] [] (by kernel_rfl) (by kernel_rfl) (by kernel_rfl) (by kernel_rfl) (by kernel_rfl) trivial ?_
    refine At.auto 1 (by kernel_rfl) ?_
    refine At.done rfl ?_
    refine AW.seq ?_
    refine AW.seq ?_
    refine AW.region (At.start ?_)
    refine At.auto 3 (by kernel_rfl) ?_
    refine At.say 37 (.bool (decide ((raftEnd aR 1) < 0))) (.bool false) (by kernel_rfl) (sayB (decide_eq_false (by have := hke; omega))) ?_
    refine At.auto 2 (by kernel_rfl) ?_
    refine At.call (laws_eqOutS_spec  (beat aR) (beat aR) (by have := hfew.1; omega) (by have := hfew.1; omega) (fun o ho => by have := hfew.2 o ho; omega) (fun o ho => by have := hfew.2 o ho; omega)) Try.call11 false [] [] [(1440, 17, ((beat aR).map encOutV)), (1360, 17, ((beat aR).map encOutV))] (by kernel_rfl) (by kernel_rfl) (by kernel_rfl) (by kernel_rfl) (by kernel_rfl) ⟨rfl, ⟨76, ((beat aR).map encOut), by kernel_rfl, frzOut _⟩, rfl, ⟨76, ((beat aR).map encOut), by kernel_rfl, frzOut _⟩, trivial⟩ ?_
    refine At.auto 2 (by kernel_rfl) ?_
    refine At.done rfl ?_
    refine AW.condF (!(listEq outEq (beat aR) (beat aR))) (by kernel_rfl) (by rw [(listEq_refl outEq_refl _)]; rfl) ?_
    refine AW.skip ?_
    refine AW.seq ?_
    refine AW.region (At.start ?_)
    refine At.auto 1 (by kernel_rfl) ?_
    refine At.done rfl ?_
    refine AW.seq ?_
    refine AW.region (At.start ?_)
    refine At.auto 2 (by kernel_rfl) ?_
    refine At.call (laws_markOutS_spec  (beat aR) 1 (by first | omega | (dsimp only; omega) | (simp only [List.length_map, List.length_append, List.length_take, List.length_drop, List.length_replicate, List.length_set, List.length_cons, List.length_nil]; omega)) (by have := hfew.1; omega) (by omega) (fun o ho => by have := hfew.2 o ho; omega)) Try.call14 true [(1440, 0)] [] [] (by kernel_rfl) (by kernel_rfl) (by kernel_rfl) (by kernel_rfl) (by kernel_rfl) trivial ?_
    refine At.auto 1 (by kernel_rfl) ?_
    refine At.done rfl ?_
    refine AW.seq ?_
    refine AW.region (At.start ?_)
    refine At.auto 1 (by kernel_rfl) ?_
    refine At.done rfl ?_
    refine AW.seq ?_
    refine AW.region (At.start ?_)
    refine At.auto 2 (by kernel_rfl) ?_
    refine At.call (laws_heldOutS_spec  (marks markO nxO (beat aR) 1) 1 hmf (by first | omega | (dsimp only; omega) | (simp only [List.length_map, List.length_append, List.length_take, List.length_drop, List.length_replicate, List.length_set, List.length_cons, List.length_nil]; omega))) Try.call15 false [] [] [(1440, 17, ((marks markO nxO (beat aR) 1).map encOutV))] (by kernel_rfl) (by kernel_rfl) (by kernel_rfl) (by kernel_rfl) (by kernel_rfl) ⟨rfl, ⟨76, ((marks markO nxO (beat aR) 1).map encOut), by kernel_rfl, frzOut _⟩, trivial⟩ ?_
    refine At.auto 1 (by kernel_rfl) ?_
    refine At.done rfl ?_
    refine AW.seq ?_
    refine AW.seq ?_
    refine AW.region (At.start ?_)
    refine At.auto 2 (by kernel_rfl) ?_
    refine At.done rfl ?_
    refine AW.condF (decide ((heldO (marks markO nxO (beat aR) 1) 1) < 0)) (by kernel_rfl) (decide_eq_false (by rw [held_outs _ _ (by omega)]; omega)) ?_
    refine AW.skip ?_
    refine AW.seq ?_
    refine AW.seq ?_
    refine AW.region (At.start ?_)
    refine At.auto 3 (by kernel_rfl) ?_
    refine At.done rfl ?_
    refine AW.condF ((heldO (marks markO nxO (beat aR) 1) 1) != (ends nxO (beat aR) 1)) (by kernel_rfl) (by rw [held_outs _ _ (by omega)]; simp) ?_
    refine AW.skip ?_
    refine AW.seq ?_
    refine AW.region (At.start ?_)
    refine At.auto 1 (by kernel_rfl) ?_
    refine At.call (laws_toRaft_spec  aR hz) Try.call9 true [] [(2100, 0), (2101, 1), (2102, 2), (2103, 3)] [] (by kernel_rfl) (by kernel_rfl) (by kernel_rfl) (by kernel_rfl) (by kernel_rfl) trivial ?_
    refine At.call (impl_RaftBeat_spec  aR hz) Try.call10 false [] [(2120, 0)] [(2100, 6, (aR.hard.log.map encEnt)), (2101, 1, (aR.yes.map encI)), (2102, 1, (aR.next.map encI)), (2103, 1, (aR.match_.map encI))] (by kernel_rfl) (by kernel_rfl) (by kernel_rfl) (by kernel_rfl) (by kernel_rfl) ⟨rfl, ⟨88, (aR.hard.log.map encEnt), by kernel_rfl, FrzIs.same (allP_encEnt _)⟩, rfl, ⟨3, (aR.yes.map encI), by kernel_rfl, FrzIs.same (allP_encI _)⟩, rfl, ⟨3, (aR.next.map encI), by kernel_rfl, FrzIs.same (allP_encI _)⟩, rfl, ⟨3, (aR.match_.map encI), by kernel_rfl, FrzIs.same (allP_encI _)⟩, trivial⟩ ?_
    refine At.auto 1 (by kernel_rfl) ?_
    refine At.done rfl ?_
    refine AW.seq ?_
    refine AW.seq ?_
    refine AW.region (At.start ?_)
    refine At.auto 2 (by kernel_rfl) ?_
    refine At.call (laws_eqOutS_spec  (beat aR) (beat aR) (by have := hfew.1; omega) (by have := hfew.1; omega) (fun o ho => by have := hfew.2 o ho; omega) (fun o ho => by have := hfew.2 o ho; omega)) Try.call11 false [] [] [(2120, 17, ((beat aR).map encOutV)), (1360, 17, ((beat aR).map encOutV))] (by kernel_rfl) (by kernel_rfl) (by kernel_rfl) (by kernel_rfl) (by kernel_rfl) ⟨rfl, ⟨76, ((beat aR).map encOut), by kernel_rfl, frzOut _⟩, rfl, ⟨76, ((beat aR).map encOut), by kernel_rfl, frzOut _⟩, trivial⟩ ?_
    refine At.auto 1 (by kernel_rfl) ?_
    refine At.done rfl ?_
    refine AW.condF (!(listEq outEq (beat aR) (beat aR))) (by kernel_rfl) (by rw [(listEq_refl outEq_refl _)]; rfl) ?_
    refine AW.skip ?_
    refine AW.seq ?_
    refine AW.region (At.start ?_)
    refine At.auto 1 (by kernel_rfl) ?_
    refine At.done rfl ?_
    refine AW.seq ?_
    refine AW.region (At.start ?_)
    refine At.auto 2 (by kernel_rfl) ?_
    refine At.call (laws_heldOutS_spec  (marks markO nxO (beat aR) 1) 1 hmf (by first | omega | (dsimp only; omega) | (simp only [List.length_map, List.length_append, List.length_take, List.length_drop, List.length_replicate, List.length_set, List.length_cons, List.length_nil]; omega))) Try.call15 false [] [] [(1440, 17, ((marks markO nxO (beat aR) 1).map encOutV))] (by kernel_rfl) (by kernel_rfl) (by kernel_rfl) (by kernel_rfl) (by kernel_rfl) ⟨rfl, ⟨76, ((marks markO nxO (beat aR) 1).map encOut), by kernel_rfl, frzOut _⟩, trivial⟩ ?_
    refine At.auto 1 (by kernel_rfl) ?_
    refine At.done rfl ?_
    refine AW.seq ?_
    refine AW.seq ?_
    refine AW.region (At.start ?_)
    refine At.auto 2 (by kernel_rfl) ?_
    refine At.done rfl ?_
    refine AW.condF (decide ((heldO (marks markO nxO (beat aR) 1) 1) < 0)) (by kernel_rfl) (decide_eq_false (by rw [held_outs _ _ (by omega)]; omega)) ?_
    refine AW.skip ?_
    refine AW.seq ?_
    refine AW.seq ?_
    refine AW.region (At.start ?_)
    refine At.auto 3 (by kernel_rfl) ?_
    refine At.done rfl ?_
    refine AW.condF ((heldO (marks markO nxO (beat aR) 1) 1) != (ends nxO (beat aR) 1)) (by kernel_rfl) (by rw [held_outs _ _ (by omega)]; simp) ?_
    refine AW.skip ?_
    refine AW.seq ?_
    refine AW.region (At.start ?_)
    refine At.auto 1 (by kernel_rfl) ?_
    refine At.done rfl ?_
    refine AW.ret ?_
    refine ⟨_, Sub.refl _ _, ?_⟩
    exact KF.mk (.inr rfl) [] [.bool true] (by kernel_rfl) (by kernel_rfl) (by kernel_rfl) (by kernel_rfl) (by kernel_rfl)
end Go.Proofs.Ytlmadhahghiedaa
