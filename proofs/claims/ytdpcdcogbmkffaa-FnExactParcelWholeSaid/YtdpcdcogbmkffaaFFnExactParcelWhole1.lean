/- The contracts of the functions that FnExactParcelWhole reaches (each: what it answers, said over values), printed by a program of this session (wip/sy/g/gen.py). -/
import Derived.Test.YtdpcdcogbmkffaaSXParcelWholePd
import Derived.Test.YtdpcdcogbmkffaaShelf
set_option linter.unusedVariables false
set_option linter.unusedSimpArgs false
set_option maxRecDepth 100000
set_option maxHeartbeats 4000000
namespace Go.Proofs.Ytdpcdcogbmkffaa
open Go Go.Sy Go.Proofs
theorem Try_mix : Try.prog.follows .mixedOrders = true := by kernel_rfl
theorem laws_szStringS_spec  (a : List ByteArray) (left : Int) (h0 : 0 ≤ left ∧ left ≤ 1048576) (hd : BigS a) : FnSpec Try.prog 21 [.sl false 1 (a.map encS), .int .i64 left] [] (.int .i64 (szSs a left)) [] := by
 obtain ⟨hd1, hd2⟩ := id hd
 unfold big at hd1 hd2
 refine FnSpec.of 28 Try.func21 rfl Try.ntmps21 (by simp) (AW.weakK ?_)
 refine AW.q 1 ?_
 refine AW.r ?_
 refine At.a 3 ?_
 refine At.sL 8 encS a ?_
 refine At.a 1 ?_
 refine At.sI 9 (left - (a.length : Int)) (by omega) ?_
 refine At.z 1 ?_
 refine AW.seq ?_
 refine AW.q 2 ?_
 refine AW.cD ((left - (a.length : Int)) < 0) (fun h1 => ?_) (fun h1 => ?_)
 · refine AW.q 1 ?_
   refine AW.ret ?_
   refine ⟨_, Sub.refl _ _, ?_⟩
   refine KF.conv (fun w => .int .i64 w) (fun w => []) (show (-1) = (szSs a left) from by unfold szSs; rw [if_pos (by omega)]) ?_
   exact KF.n []
 refine AW.skip ?_
 refine AW.seq ?_
 refine AW.q 1 ?_
 refine AW.block ?_
 refine AW.loopW (fun (x : Nat × Int) => match x with | (k, lf) => Go.Sy.mk [.sl false 1 (a.map encS), .int .i64 lf, .un, .un, .un, .int .i64 (k : Int)] []) (fun (x : Nat × Int) => match x with | (k, lf) => k ≤ a.length ∧ 0 ≤ lf ∧ lf ≤ 1048576 ∧ szSs a left = szSGo (a.drop k) lf) (fun (x : Nat × Int) => match x with | (k, lf) => a.length - k) (0, left - (a.length : Int)) ⟨by omega, by omega, by omega, by unfold szSs; rw [if_neg (by omega)]; rfl⟩ (Sub.o [] [true, true, false, false, false, true]) ?_
 rintro ⟨k, lf⟩ ⟨hk, hl0, hl1, hR⟩
 refine AW.seq ?_
 refine AW.r ?_
 refine At.a 3 ?_
 refine At.sL 14 encS a ?_
 refine At.z 1 ?_
 refine AW.cD ((k : Int) < (a.length : Int)) (fun h2 => ?_) (fun h2 => ?_)
 · refine AW.skip ?_
   refine AW.seq ?_
   refine AW.block ?_
   refine AW.r ?_
   refine At.a 3 ?_
   refine At.iSl 22 21 (.tmp 19) (.tmp 20) false 1 (a.map encS) .i64 (k : Int) 9 (by omega) (by simp only [List.length_map]; omega) ?_
   refine Exists.elim (gE a k (by omega)) fun e1 he1 => ?_
   have hbe1 := hd2 _ (List.mem_of_getElem? he1)
   refine At.lVp 9 22 (.tmp 21) false 1 (a.map encS) k 0 false 1 (encS e1) (.str e1) (mapGet he1) ?_
   refine At.a 2 ?_
   refine At.sI 24 (lf - (e1.size : Int)) (by omega) ?_
   refine At.z 1 ?_
   refine AW.q 2 ?_
   refine AW.cD ((lf - (e1.size : Int)) < 0) (fun h3 => ?_) (fun h3 => ?_)
   · refine AW.q 1 ?_
     refine AW.ret ?_
     refine ⟨_, Sub.refl _ _, ?_⟩
     refine KF.conv (fun w => .int .i64 w) (fun w => []) (show (-1) = (szSs a left) from by rw [hR, dropCons he1, szSGo, if_pos (by omega)]) ?_
     exact KF.n []
   refine AW.skip ?_
   refine AW.g ?_
   refine At.a 2 ?_
   refine At.sI 17 ((k : Int) + 1) (by omega) ?_
   refine At.z 1 ?_
   exact ⟨(k + 1, (lf - (e1.size : Int))), ⟨by omega, by omega, by omega, by rw [hR, dropCons he1, szSGo, if_neg (by omega)]⟩, by simp only; omega, Sub.o [] [true, true, false, false, false, true]⟩
 refine AW.exit ?_
 refine AW.q 2 ?_
 refine AW.ret ?_
 refine ⟨_, Sub.refl _ _, ?_⟩
 refine KF.conv (fun w => .int .i64 w) (fun w => []) (show (lf) = (szSs a left) from by rw [hR, List.drop_of_length_le (by omega)]; rfl) ?_
 exact KF.n []
theorem laws_szParcel_spec  (a : Prc) (left : Int) (h0 : 0 ≤ left ∧ left ≤ 1048576) (hd : BigP a) : FnSpec Try.prog 5 [.agg [.int .i64 a.size, .str a.digest, .sl false 1 (a.parts.map encS)], .int .i64 left] [] (.int .i64 (szP a left)) [] := by
 obtain ⟨d1, d2⟩ := id hd
 unfold big at d1
 refine FnSpec.of 19 Try.func5 rfl Try.ntmps5 (by simp) (AW.weakK ?_)
 refine AW.q 2 ?_
 refine AW.r ?_
 refine At.a 5 ?_
 refine At.sI 9 (left - (a.digest.size : Int)) (by omega) ?_
 refine At.z 1 ?_
 refine AW.seq ?_
 refine AW.q 2 ?_
 refine AW.cD ((left - (a.digest.size : Int)) < 0) (fun h1 => ?_) (fun h1 => ?_)
 · refine AW.q 1 ?_
   refine AW.ret ?_
   refine ⟨_, Sub.refl _ _, ?_⟩
   refine KF.conv (fun w => .int .i64 w) (fun w => []) (show (-1) = (szP a left) from by unfold szP; first | (rw [if_pos (by omega)]; done) | (rw [if_neg (by omega)]; done) | (rw [if_neg (by omega)]; first | (symm; assumption) | (have q : szSs a.parts (left - (a.digest.size : Int)) = -1 := szSs_neg (by omega); omega))) ?_
   exact KF.n []
 refine AW.skip ?_
 refine AW.r ?_
 refine At.a 3 ?_
 refine At.c (laws_szStringS_spec  a.parts (left - (a.digest.size : Int)) (by omega) d2) Try.call21 true [] [] [] trivial ?_
 refine At.z 1 ?_
 refine AW.seq ?_
 refine AW.q 2 ?_
 refine AW.cD ((szSs a.parts (left - (a.digest.size : Int))) < 0) (fun h2 => ?_) (fun h2 => ?_)
 · refine AW.q 1 ?_
   refine AW.ret ?_
   refine ⟨_, Sub.refl _ _, ?_⟩
   refine KF.conv (fun w => .int .i64 w) (fun w => []) (show (-1) = (szP a left) from by unfold szP; first | (rw [if_pos (by omega)]; done) | (rw [if_neg (by omega)]; done) | (rw [if_neg (by omega)]; first | (symm; assumption) | (have q : szSs a.parts (left - (a.digest.size : Int)) = -1 := szSs_neg (by omega); omega))) ?_
   exact KF.n []
 refine AW.skip ?_
 refine AW.q 2 ?_
 refine AW.ret ?_
 refine ⟨_, Sub.refl _ _, ?_⟩
 refine KF.conv (fun w => .int .i64 w) (fun w => []) (show (szSs a.parts (left - (a.digest.size : Int))) = (szP a left) from by unfold szP; first | (rw [if_pos (by omega)]; done) | (rw [if_neg (by omega)]; done) | (rw [if_neg (by omega)]; first | (symm; assumption) | (have q : szSs a.parts (left - (a.digest.size : Int)) = -1 := szSs_neg (by omega); omega))) ?_
 exact KF.n []
theorem laws_toStringS_spec  (a : List ByteArray) (ha : a.length ≤ 1048576) : FnSpec Try.prog 23 [.sl false 1 (a.map encS)] [] (.ref 0) [.arr 9 1 (a.map encS)] := by
 refine FnSpec.of 22 Try.func23 rfl Try.ntmps23 (by simp) (AW.weakK ?_)
 refine AW.q 1 ?_
 refine AW.r ?_
 refine At.a 2 ?_
 refine At.sL 6 encS a ?_
 refine At.make (t := 22) (d := 7) (e := 9) (es := 1) (bytes := 16) (x := .tmp 6) (y := .tmp 6) (ka := .i64) (kb := .i64) (zs := [.str (⟨#[]⟩ : ByteArray)]) 107 a.length ((List.replicate a.length (⟨#[]⟩ : ByteArray)).map encS) (by kernel_rfl) (by kernel_rfl) (by kernel_rfl) (by kernel_rfl) (by kernel_rfl) (by omega) (by omega) (by rw [List.map_replicate]; rfl) ?_
 refine At.z 1 ?_
 refine AW.seq ?_
 refine AW.q 1 ?_
 refine AW.block ?_
 refine AW.loopW (fun (k : Nat) => Go.Sy.mk [.sl false 1 (a.map encS), .un, .un, .ref 107, .int .i64 (k : Int)] [(107, .arr 9 1 ((a.take k ++ List.replicate (a.length - k) (⟨#[]⟩ : ByteArray)).map encS))]) (fun (k : Nat) => k ≤ a.length) (fun (k : Nat) => a.length - k) 0 (by omega) (Sub.o [(107, 107)] [true, false, false, true, true]) ?_
 rintro k hk
 refine AW.seq ?_
 refine AW.r ?_
 refine At.a 3 ?_
 refine At.sL 10 encS a ?_
 refine At.z 1 ?_
 refine AW.cD ((k : Int) < (a.length : Int)) (fun h1 => ?_) (fun h1 => ?_)
 · refine AW.skip ?_
   refine AW.seq ?_
   refine AW.block ?_
   refine AW.g ?_
   refine At.a 4 ?_
   refine At.iSl 22 18 (.tmp 16) (.tmp 17) false 1 (a.map encS) .i64 (k : Int) 9 (by omega) (by simp only [List.length_map]; omega) ?_
   refine Exists.elim (gE a k (by omega)) fun e1 he1 => ?_
   refine At.lVp 9 19 (.tmp 18) false 1 (a.map encS) k 0 false 1 (encS e1) (.str e1) (mapGet he1) ?_
   refine At.iRf 22 20 (.tmp 14) (.tmp 15) 107 ((a.take k ++ List.replicate (a.length - k) (⟨#[]⟩ : ByteArray)).map encS) .i64 (k : Int) 9 1 (by omega) (by simp only [List.length_map, List.length_append, List.length_take, List.length_drop, List.length_replicate, List.length_set, List.length_cons, List.length_nil]; omega) ?_
   refine Exists.elim (gE (a.take k ++ List.replicate (a.length - k) (⟨#[]⟩ : ByteArray)) k (by simp only [List.length_map, List.length_append, List.length_take, List.length_drop, List.length_replicate, List.length_set, List.length_cons, List.length_nil]; omega)) fun e2 he2 => ?_
   refine At.sEl 9 107 9 1 k 0 (.tmp 20) (.tmp 19) ((a.take k ++ List.replicate (a.length - k) (⟨#[]⟩ : ByteArray)).map encS) ((a.take (k + 1) ++ List.replicate (a.length - (k + 1)) (⟨#[]⟩ : ByteArray)).map encS) [.str e1] (.str e1) (encS e2) (encS e1) (mapGet he2) (stepToV (by assumption)) ?_
   refine At.done rfl ?_
   refine AW.g ?_
   refine At.a 2 ?_
   refine At.sI 13 ((k : Int) + 1) (by omega) ?_
   refine At.z 1 ?_
   exact ⟨k + 1, (by omega), (by omega), Sub.o [(107, 107)] [true, false, false, true, true]⟩
 refine AW.exit ?_
 refine AW.q 2 ?_
 refine AW.ret ?_
 refine ⟨_, Sub.refl _ _, ?_⟩
 refine KF.conv (fun w => .ref 0) (fun w => [.arr 9 1 (w.map encS)]) (show (a.take k ++ List.replicate (a.length - k) (⟨#[]⟩ : ByteArray)) = (a) from endTo (by omega)) ?_
 exact KF.n [(107, 0)]
theorem laws_toParcel_spec  (a : Prc) (ha : a.parts.length ≤ 1048576) : FnSpec Try.prog 7 [.agg [.int .i64 a.size, .str a.digest, .sl false 1 (a.parts.map encS)]] [] (.agg [.int .i64 a.size, .str a.digest, .ref 0]) [.arr 9 1 (a.parts.map encS)] := by
 refine FnSpec.of 15 Try.func7 rfl Try.ntmps7 (by simp) (AW.weakK ?_)
 refine AW.q 2 ?_
 refine AW.seq ?_
 refine AW.weak (Sub.nils [⟨true, 102, some 2, 5001, 9, 1⟩] (by kernel_rfl)) ?_
 refine AW.gq 1 ?_
 refine AW.seq ?_
 refine AW.weak (Sub.nils [⟨true, 103, some 2, 5002, 9, 1⟩] (by kernel_rfl)) ?_
 refine AW.gq 4 ?_
 refine AW.q 4 ?_
 refine AW.r ?_
 refine At.a 2 ?_
 refine At.c (laws_toStringS_spec  a.parts (by omega)) Try.call23 true [] [(1240, 0)] [] trivial ?_
 refine At.z 2 ?_
 refine AW.q 2 ?_
 exact AW.ret (rf (KF.n [(1240, 0)]))
theorem spec_l1In_spec  (x : Int) (lo : Int) (hi : Int) : FnSpec Try.prog 36 [.int .i64 x, .int .i64 lo, .int .i64 hi] [] (.bool (inR x lo hi)) [] := by
 refine FnSpec.of 15 Try.func36 rfl Try.ntmps36 (by simp) (AW.weakK ?_)
 refine AW.q 1 ?_
 refine AW.r ?_
 refine At.a 4 ?_
 by_cases h1 : x ≥ lo
 · refine At.sB 10 _ _ (sayT h1) ?_
   refine At.z 5 ?_
   refine AW.ret ?_
   refine ⟨_, Sub.refl _ _, ?_⟩
   refine KF.conv (fun w => .bool w) (fun w => []) (show (decide (x ≤ hi)) = (inR x lo hi) from by simp [inR, *]) ?_
   exact KF.n []
 refine At.sB 10 _ _ (sayF h1) ?_
 refine At.z 5 ?_
 refine AW.ret ?_
 refine ⟨_, Sub.refl _ _, ?_⟩
 refine KF.conv (fun w => .bool w) (fun w => []) (show (false) = (inR x lo hi) from by simp [inR, *]) ?_
 exact KF.n []
theorem spec_PartsOf_spec  (n : Int) : FnSpec Try.prog 16 [.int .i64 n] [] (.int .i64 (partsN n)) [] := by
 refine FnSpec.of 10 Try.func16 rfl Try.ntmps16 (by simp) (AW.weakK ?_)
 refine AW.q 1 ?_
 refine AW.seq ?_
 refine AW.r ?_
 refine At.a 1 ?_
 refine At.c (spec_l1In_spec  n 0 1000 ) Try.call36 true [] [] [] trivial ?_
 refine At.z 1 ?_
 refine AW.cNB (inR n 0 1000) (fun h1 => ?_) (fun h1 => ?_)
 · refine AW.q 1 ?_
   refine AW.ret ?_
   refine ⟨_, Sub.refl _ _, ?_⟩
   refine KF.conv (fun w => .int .i64 w) (fun w => []) (show (-1) = (partsN n) from by rw [partsN_no (by assumption)]) ?_
   exact KF.n []
 have h1i := inR_iff.1 h1
 have hni := inR_iff.1 h1
 refine AW.skip ?_
 refine AW.r ?_
 refine At.a 2 ?_
 refine At.sI 7 (n + 16) (by omega) ?_
 refine At.a 1 ?_
 refine At.sJ 8 ((n + 16) - 1) (n + 15) (by omega) (by omega) ?_
 refine At.div (t := 3) (u := 3) (d := 9) (op := .quo) (x := .tmp 8) (y := .const (.int .i64 16)) (kd := .i64) (a := n + 15) (b := 16) (by kernel_rfl) (by kernel_rfl) (by kernel_rfl) (by kernel_rfl) (by omega) (.int .i64 (IntKind.i64.wrap ((n + 15).tdiv 16))) (.inl ⟨rfl, rfl⟩) ?_
 refine At.say 9 (.int .i64 (IntKind.i64.wrap ((n + 15).tdiv 16))) (.int .i64 ((n + 15) / 16)) (by kernel_rfl) (sayQuo (by omega) (by omega) (by omega)) ?_
 refine At.z 1 ?_
 refine AW.ret ?_
 refine ⟨_, Sub.refl _ _, ?_⟩
 refine KF.conv (fun w => .int .i64 w) (fun w => []) (show ((n + 15) / 16) = (partsN n) from by rw [(partsN_of (by assumption)).2.2]) ?_
 exact KF.n []
theorem spec_l1Min_spec  (a : Int) (b : Int) : FnSpec Try.prog 60 [.int .i64 a, .int .i64 b] [] (.int .i64 (min a b)) [] := by
 refine FnSpec.of 10 Try.func60 rfl Try.ntmps60 (by simp) (AW.weakK ?_)
 refine AW.q 1 ?_
 refine AW.seq ?_
 refine AW.q 3 ?_
 refine AW.cD (a < b) (fun h1 => ?_) (fun h1 => ?_)
 · refine AW.q 2 ?_
   refine AW.ret ?_
   refine ⟨_, Sub.refl _ _, ?_⟩
   refine KF.conv (fun w => .int .i64 w) (fun w => []) (show (a) = (min a b) from by omega) ?_
   exact KF.n []
 refine AW.skip ?_
 refine AW.q 2 ?_
 refine AW.ret ?_
 refine ⟨_, Sub.refl _ _, ?_⟩
 refine KF.conv (fun w => .int .i64 w) (fun w => []) (show (b) = (min a b) from by omega) ?_
 exact KF.n []
theorem spec_l9Long_spec  (n : Int) (i : Int) (hn : 0 ≤ n ∧ n ≤ 1000) (hi : 0 ≤ i ∧ i ≤ 1000) : FnSpec Try.prog 40 [.int .i64 n, .int .i64 i] [] (.int .i64 (longI n i)) [] := by
 refine FnSpec.of 10 Try.func40 rfl Try.ntmps40 (by simp) (AW.weakK ?_)
 refine AW.q 1 ?_
 refine AW.r ?_
 refine At.a 3 ?_
 refine At.sI 7 (i * 16) (by omega) ?_
 refine At.a 1 ?_
 refine At.sI 8 (n - (i * 16)) (by omega) ?_
 refine At.c (spec_l1Min_spec  16 (n - (i * 16)) ) Try.call60 true [] [] [] trivial ?_
 refine At.z 1 ?_
 refine AW.ret ?_
 refine ⟨_, Sub.refl _ _, ?_⟩
 refine KF.conv (fun w => .int .i64 w) (fun w => []) (show (min 16 (n - (i * 16))) = (longI n i) from by rfl) ?_
 exact KF.n []
theorem spec_ParcelOk_spec  (p : Prc) (hp : SmallP p) : FnSpec Try.prog 22 [.agg [.int .i64 p.size, .str p.digest, .sl false 1 (p.parts.map encS)]] [] (.bool (prcOk p)) [] := by
 obtain ⟨p1, p2, p3⟩ := id hp
 have hpn := partsN_neg (n := p.size)
 refine FnSpec.of 50 Try.func22 rfl Try.ntmps22 (by simp) (AW.weakK ?_)
 refine AW.q 2 ?_
 refine AW.seq ?_
 refine AW.seq ?_
 refine AW.gD Try_mix ?_
 refine At.a 2 ?_
 refine At.c (spec_PartsOf_spec  p.size ) Try.call16 true [] [] [] trivial ?_
 refine At.a 2 ?_
 by_cases h1 : (partsN p.size) < 0
 · refine At.sB 8 _ _ (sayT h1) ?_
   refine At.zD 14 ?_
   refine AW.cond true (by kernel_rfl) (fun _ => ?_) (fun h => by cases h)
   refine AW.q 1 ?_
   refine AW.ret ?_
   refine ⟨_, Sub.refl _ _, ?_⟩
   refine KF.conv (fun w => .bool w) (fun w => []) (show (false) = (prcOk p) from by exact (prcOk_no (fun q => by have := partsN_neg.1 (by assumption); rw [q.1] at this; exact Bool.false_ne_true this.symm)).symm) ?_
   exact KF.n []
 refine At.sB 8 _ _ (sayF h1) ?_
 have hin : inR p.size 0 1000 = true := in_of_neg h1
 have hni := inR_iff.1 hin
 have hpo := partsN_of hin
 refine At.a 6 ?_
 by_cases h2 : (p.digest.size : Int) = 32
 · refine At.sB 14 _ _ (sayUF h2) ?_
   refine At.a 3 ?_
   refine At.sL 17 encS p.parts ?_
   refine At.a 2 ?_
   refine At.c (spec_PartsOf_spec  p.size ) Try.call16 true [] [] [] trivial ?_
   refine At.zD 2 ?_
   refine AW.cU (p.parts.length : Int) (partsN p.size) (fun h3 => ?_) (fun h3 => ?_)
   · refine AW.q 1 ?_
     refine AW.ret ?_
     refine ⟨_, Sub.refl _ _, ?_⟩
     refine KF.conv (fun w => .bool w) (fun w => []) (show (false) = (prcOk p) from by exact (prcOk_no (by simp_all)).symm) ?_
     exact KF.n []
   refine AW.skip ?_
   refine AW.seq ?_
   refine AW.q 1 ?_
   refine AW.block ?_
   refine AW.loopW (fun (k : Nat) => Go.Sy.mk [.un, .ptr 101 0 0, .un, .int .i64 (k : Int)] [(101, .box 28 [.int .i64 p.size, .str p.digest, .sl false 1 (p.parts.map encS)])]) (fun (k : Nat) => k ≤ p.parts.length ∧ okGo p.size 0 p.parts = okGo p.size k (p.parts.drop k)) (fun (k : Nat) => p.parts.length - k) 0 ⟨by omega, by rw [List.drop_zero]⟩ (Sub.o [(101, 101)] [false, true, false, true]) ?_
   rintro k ⟨hk, hR⟩
   refine AW.seq ?_
   refine AW.r ?_
   refine At.a 4 ?_
   refine At.sL 26 encS p.parts ?_
   refine At.z 1 ?_
   refine AW.cD ((k : Int) < (p.parts.length : Int)) (fun h4 => ?_) (fun h4 => ?_)
   · refine AW.skip ?_
     refine AW.seq ?_
     refine AW.block ?_
     refine AW.seq ?_
     refine AW.gD Try_mix ?_
     refine At.a 3 ?_
     refine At.iSl 22 33 (.tmp 31) (.tmp 32) false 1 (p.parts.map encS) .i64 (k : Int) 9 (by omega) (by simp only [List.length_map]; omega) ?_
     refine Exists.elim (gE p.parts k (by omega)) fun e1 he1 => ?_
     refine At.lVp 9 34 (.tmp 33) false 1 (p.parts.map encS) k 0 false 1 (encS e1) (.str e1) (mapGet he1) ?_
     refine At.a 3 ?_
     by_cases h5 : (e1.size : Int) = 0
     · refine At.sB 37 _ _ (sayUF h5) ?_
       refine At.zD 12 ?_
       refine AW.cond false (by kernel_rfl) (fun h => by cases h) (fun _ => ?_)
       refine AW.skip ?_
       refine AW.g ?_
       refine At.a 2 ?_
       refine At.sI 29 ((k : Int) + 1) (by omega) ?_
       refine At.z 1 ?_
       exact ⟨k + 1, ⟨by omega, by rw [hR]; exact okGo_step he1 (by left; omega)⟩, (by omega), Sub.o [(101, 101)] [false, true, false, true]⟩
     refine At.sB 37 _ _ (sayUT h5) ?_
     refine At.a 3 ?_
     refine At.iSl 22 41 (.tmp 39) (.tmp 40) false 1 (p.parts.map encS) .i64 (k : Int) 9 (by omega) (by simp only [List.length_map]; omega) ?_
     refine At.lVp 9 42 (.tmp 41) false 1 (p.parts.map encS) k 0 false 1 (encS e1) (.str e1) (mapGet he1) ?_
     refine At.a 4 ?_
     refine At.c (spec_l9Long_spec  p.size (k : Int) (by omega) (by omega)) Try.call40 true [] [] [] trivial ?_
     refine At.zD 2 ?_
     refine AW.cU (e1.size : Int) (longI p.size (k : Int)) (fun h6 => ?_) (fun h6 => ?_)
     · refine AW.q 1 ?_
       refine AW.ret ?_
       refine ⟨_, Sub.refl _ _, ?_⟩
       refine KF.conv (fun w => .bool w) (fun w => []) (show (false) = (prcOk p) from by exact (prc_bad hR (okGo_bad he1 (by first | omega | (rw [← emp_iff]; assumption)) (by omega))).symm) ?_
       exact KF.n []
     refine AW.skip ?_
     refine AW.g ?_
     refine At.a 2 ?_
     refine At.sI 29 ((k : Int) + 1) (by omega) ?_
     refine At.z 1 ?_
     exact ⟨k + 1, ⟨by omega, by rw [hR]; exact okGo_step he1 (by right; omega)⟩, (by omega), Sub.o [(101, 101)] [false, true, false, true]⟩
   refine AW.exit ?_
   refine AW.q 1 ?_
   refine AW.ret ?_
   refine ⟨_, Sub.refl _ _, ?_⟩
   refine KF.conv (fun w => .bool w) (fun w => []) (show (true) = (prcOk p) from by exact (prc_good hR (by omega) (by assumption) (by omega) (by omega)).symm) ?_
   exact KF.n []
 refine At.sB 14 _ _ (sayUT h2) ?_
 refine At.zD 8 ?_
 refine AW.cond true (by kernel_rfl) (fun _ => ?_) (fun h => by cases h)
 refine AW.q 1 ?_
 refine AW.ret ?_
 refine ⟨_, Sub.refl _ _, ?_⟩
 refine KF.conv (fun w => .bool w) (fun w => []) (show (false) = (prcOk p) from by exact (prcOk_no (by simp_all)).symm) ?_
 exact KF.n []
theorem spec_l2Low_spec  (x : Int) : FnSpec Try.prog 57 [.int .i64 x] [] (.int .i64 (x % 4294967296)) [] := by
 refine FnSpec.of 5 Try.func57 rfl Try.ntmps57 (by simp) (AW.weakK ?_)
 refine AW.q 1 ?_
 refine AW.r ?_
 refine At.a 1 ?_
 refine At.bits (t := 3) (u := 3) (d := 4) (op := .and) (x := .tmp 3) (y := .const (.int .i64 4294967295)) (kd := .i64) (a := x) (b := 4294967295) (x % 4294967296) (by kernel_rfl) (by kernel_rfl) (by kernel_rfl) (by kernel_rfl) (andM 32 4294967296 _ _ (by decide) (by decide) (by decide)) ?_
 refine At.z 1 ?_
 exact AW.ret (rf (KF.n []))
theorem spec_l2Turn_spec  (x : Int) (n : Int) (hx : 0 ≤ x ∧ x < 4294967296) (hn : 2 ≤ n ∧ n ≤ 30) : FnSpec Try.prog 56 [.int .i64 x, .int .i64 n] [] (.int .i64 (turnI x n)) [] := by
 refine FnSpec.of 14 Try.func56 rfl Try.ntmps56 (by simp) (AW.weakK ?_)
 refine AW.q 1 ?_
 refine AW.seq ?_
 refine AW.gD Try_mix ?_
 refine At.a 2 ?_
 refine At.shift (t := 3) (u := 3) (d := 7) (op := .shr) (x := .tmp 5) (y := .tmp 6) (kd := .i64) (kd' := .i64) (a := x) (b := n) (shV .shr .i64 x n) (by kernel_rfl) (by kernel_rfl) (by kernel_rfl) (by kernel_rfl) (by omega) (shS_shr _ _ _) ?_
 refine At.a 3 ?_
 refine At.sI 10 (32 - n) (by omega) ?_
 refine At.shift (t := 3) (u := 3) (d := 11) (op := .shl) (x := .tmp 8) (y := .tmp 10) (kd := .i64) (kd' := .i64) (a := x) (b := 32 - n) (shV .shl .i64 x (32 - n)) (by kernel_rfl) (by kernel_rfl) (by kernel_rfl) (by kernel_rfl) (by omega) (shS_shl _ _ _) ?_
 refine At.bits (t := 3) (u := 3) (d := 12) (op := .or) (x := .tmp 7) (y := .tmp 11) (kd := .i64) (a := shV .shr .i64 x n) (b := shV .shl .i64 x (32 - n)) (bitV .or .i64 (shV .shr .i64 x n) (shV .shl .i64 x (32 - n))) (by kernel_rfl) (by kernel_rfl) (by kernel_rfl) (by kernel_rfl) (bitS_or _ _ _) ?_
 refine At.c (spec_l2Low_spec  (bitV .or .i64 (shV .shr .i64 x n) (shV .shl .i64 x (32 - n))) ) Try.call57 true [] [] [] trivial ?_
 refine At.zD 1 ?_
 refine AW.ret ?_
 refine ⟨_, Sub.refl _ _, ?_⟩
 refine KF.conv (fun w => .int .i64 w) (fun w => []) (show ((bitV .or .i64 (shV .shr .i64 x n) (shV .shl .i64 x (32 - n))) % 4294967296) = (turnI x n) from rfl) ?_
 exact KF.n []
theorem spec_l2Keys_spec   : FnSpec Try.prog 58 [] [] (.ref 0) [.arr 3 1 (keysI.map encI)] := by
 refine FnSpec.of 2 Try.func58 rfl Try.ntmps58 (by simp) (AW.weakK ?_)
 refine AW.q 1 ?_
 refine AW.r ?_
 refine At.ll 1 3 1 101 (0, 6) (([1116352408, 1899447441, 3049323471, 3921009573, 961987163, 1508970993, 2453635748, 2870763221, 3624381080, 310598401, 607225278, 1426881987, 1925078388, 2162078206, 2614888103, 3248222580, 3835390401, 4022224774, 264347078, 604807628, 770255983, 1249150122, 1555081692, 1996064986, 2554220882, 2821834349, 2952996808, 3210313671, 3336571891, 3584528711, 113926993, 338241895, 666307205, 773529912, 1294757372, 1396182291, 1695183700, 1986661051, 2177026350, 2456956037, 2730485921, 2820302411, 3259730800, 3345764771, 3516065817, 3600352804, 4094571909, 275423344, 430227734, 506948616, 659060556, 883997877, 958139571, 1322822218, 1537002063, 1747873779, 1955562222, 2024104815, 2227730452, 2361852424, 2428436474, 2756734187, 3204031479, 3329325298]).map encI) ?_
 refine At.z 1 ?_
 refine AW.ret ?_
 refine ⟨_, Sub.refl _ _, ?_⟩
 refine KF.conv (fun w => .ref 0) (fun w => [.arr 3 1 (w.map encI)]) (show ([1116352408, 1899447441, 3049323471, 3921009573, 961987163, 1508970993, 2453635748, 2870763221, 3624381080, 310598401, 607225278, 1426881987, 1925078388, 2162078206, 2614888103, 3248222580, 3835390401, 4022224774, 264347078, 604807628, 770255983, 1249150122, 1555081692, 1996064986, 2554220882, 2821834349, 2952996808, 3210313671, 3336571891, 3584528711, 113926993, 338241895, 666307205, 773529912, 1294757372, 1396182291, 1695183700, 1986661051, 2177026350, 2456956037, 2730485921, 2820302411, 3259730800, 3345764771, 3516065817, 3600352804, 4094571909, 275423344, 430227734, 506948616, 659060556, 883997877, 958139571, 1322822218, 1537002063, 1747873779, 1955562222, 2024104815, 2227730452, 2361852424, 2428436474, 2756734187, 3204031479, 3329325298]) = (keysI) from rfl) ?_
 exact KF.n [(101, 0)]
theorem spec_l2Block_spec  (h : List Int) (b : List UInt8) (hh : h.length = 8) (ha : AllW h) (hb : b.length = 64) : FnSpec Try.prog 34 [.sl false 1 (h.map encI), .sl false 1 (b.map encU8)] [] (.ref 0) [.arr 3 1 ((roundI h b).map encI)] := by
 have hkl := keysI_len
 have hsl := sched_len b
 refine FnSpec.of 250 Try.func34 rfl Try.ntmps34 (by simp) (AW.weakK ?_)
 refine AW.q 1 ?_
 refine AW.r ?_
 refine At.lit0 (t := 39) (d := 21) (e := 3) (es := 1) (bytes := 8) 121 (by kernel_rfl) (by kernel_rfl) (by kernel_rfl) (by kernel_rfl) ?_
 refine At.z 1 ?_
 refine AW.seq ?_
 refine AW.q 1 ?_
 refine AW.block ?_
 refine AW.loopW (fun (x : Nat × List Int) => match x with | (k, l) => Go.Sy.mk [.sl false 1 (h.map encI), .sl false 1 (b.map encU8), .un, .un, .un, .ref 121, .int .i64 (k : Int)] [(121, .arr 3 1 (l.map encI))]) (fun (x : Nat × List Int) => match x with | (k, l) => k ≤ 16 ∧ l = wordsI b k ∧ l.length = k) (fun (x : Nat × List Int) => match x with | (k, l) => 16 - k) (0, []) ⟨by omega, rfl, rfl⟩ (Sub.o [(121, 121)] [true, true, false, false, false, true, true]) ?_
 rintro ⟨k, l⟩ ⟨hk, hq, hl⟩
 refine AW.seq ?_
 refine AW.q 2 ?_
 refine AW.cD ((k : Int) < 16) (fun h1 => ?_) (fun h1 => ?_)
 · refine AW.skip ?_
   refine AW.seq ?_
   refine AW.block ?_
   refine AW.gD Try_mix ?_
   refine At.a 4 ?_
   refine At.sI 29 (4 * (k : Int)) (by omega) ?_
   refine At.iSl 32 30 (.tmp 27) (.tmp 29) false 1 (b.map encU8) .i64 (4 * (k : Int)) 5 (by omega) (by simp only [List.length_map]; omega) ?_
   refine Exists.elim (gE b ((4 * (k : Int)).toNat) (by omega)) fun e1 he1 => ?_
   have hbe1 := UInt8.toNat_lt e1
   refine At.lVp 5 31 (.tmp 30) false 1 (b.map encU8) ((4 * (k : Int)).toNat) 0 false 1 (encU8 e1) (.int .u8 (e1.toNat : Int)) (mapGet he1) ?_
   refine At.conv (s := 5) (t := 3) (d := 32) (x := .tmp 31) (kd := .u8) (kd' := .i64) (a := (e1.toNat : Int)) (.int .i64 (e1.toNat : Int)) (by kernel_rfl) (by kernel_rfl) (by kernel_rfl) (by kernel_rfl) (sayI _ (by have := UInt8.toNat_lt e1; omega)) ?_
   refine At.shift (t := 3) (u := 63) (d := 33) (op := .shl) (x := .tmp 32) (y := .const (.int .u64 24)) (kd := .i64) (kd' := .u64) (a := (e1.toNat : Int)) (b := 24) (shV .shl .i64 (e1.toNat : Int) 24) (by kernel_rfl) (by kernel_rfl) (by kernel_rfl) (by kernel_rfl) (by omega) (shS_shl _ _ _) ?_
   refine At.a 3 ?_
   refine At.sI 36 (4 * (k : Int)) (by omega) ?_
   refine At.a 1 ?_
   refine At.sI 37 ((4 * (k : Int)) + 1) (by omega) ?_
   refine At.iSl 32 38 (.tmp 34) (.tmp 37) false 1 (b.map encU8) .i64 ((4 * (k : Int)) + 1) 5 (by omega) (by simp only [List.length_map]; omega) ?_
   refine Exists.elim (gE b (((4 * (k : Int)) + 1).toNat) (by omega)) fun e2 he2 => ?_
   have hbe2 := UInt8.toNat_lt e2
   refine At.lVp 5 39 (.tmp 38) false 1 (b.map encU8) (((4 * (k : Int)) + 1).toNat) 0 false 1 (encU8 e2) (.int .u8 (e2.toNat : Int)) (mapGet he2) ?_
   refine At.conv (s := 5) (t := 3) (d := 40) (x := .tmp 39) (kd := .u8) (kd' := .i64) (a := (e2.toNat : Int)) (.int .i64 (e2.toNat : Int)) (by kernel_rfl) (by kernel_rfl) (by kernel_rfl) (by kernel_rfl) (sayI _ (by have := UInt8.toNat_lt e2; omega)) ?_
   refine At.shift (t := 3) (u := 63) (d := 41) (op := .shl) (x := .tmp 40) (y := .const (.int .u64 16)) (kd := .i64) (kd' := .u64) (a := (e2.toNat : Int)) (b := 16) (shV .shl .i64 (e2.toNat : Int) 16) (by kernel_rfl) (by kernel_rfl) (by kernel_rfl) (by kernel_rfl) (by omega) (shS_shl _ _ _) ?_
   refine At.bits (t := 3) (u := 3) (d := 42) (op := .or) (x := .tmp 33) (y := .tmp 41) (kd := .i64) (a := shV .shl .i64 (e1.toNat : Int) 24) (b := shV .shl .i64 (e2.toNat : Int) 16) (bitV .or .i64 (shV .shl .i64 (e1.toNat : Int) 24) (shV .shl .i64 (e2.toNat : Int) 16)) (by kernel_rfl) (by kernel_rfl) (by kernel_rfl) (by kernel_rfl) (bitS_or _ _ _) ?_
   refine At.a 3 ?_
   refine At.sI 45 (4 * (k : Int)) (by omega) ?_
   refine At.a 1 ?_
   refine At.sI 46 ((4 * (k : Int)) + 2) (by omega) ?_
   refine At.iSl 32 47 (.tmp 43) (.tmp 46) false 1 (b.map encU8) .i64 ((4 * (k : Int)) + 2) 5 (by omega) (by simp only [List.length_map]; omega) ?_
   refine Exists.elim (gE b (((4 * (k : Int)) + 2).toNat) (by omega)) fun e3 he3 => ?_
   have hbe3 := UInt8.toNat_lt e3
   refine At.lVp 5 48 (.tmp 47) false 1 (b.map encU8) (((4 * (k : Int)) + 2).toNat) 0 false 1 (encU8 e3) (.int .u8 (e3.toNat : Int)) (mapGet he3) ?_
   refine At.conv (s := 5) (t := 3) (d := 49) (x := .tmp 48) (kd := .u8) (kd' := .i64) (a := (e3.toNat : Int)) (.int .i64 (e3.toNat : Int)) (by kernel_rfl) (by kernel_rfl) (by kernel_rfl) (by kernel_rfl) (sayI _ (by have := UInt8.toNat_lt e3; omega)) ?_
   refine At.shift (t := 3) (u := 63) (d := 50) (op := .shl) (x := .tmp 49) (y := .const (.int .u64 8)) (kd := .i64) (kd' := .u64) (a := (e3.toNat : Int)) (b := 8) (shV .shl .i64 (e3.toNat : Int) 8) (by kernel_rfl) (by kernel_rfl) (by kernel_rfl) (by kernel_rfl) (by omega) (shS_shl _ _ _) ?_
   refine At.bits (t := 3) (u := 3) (d := 51) (op := .or) (x := .tmp 42) (y := .tmp 50) (kd := .i64) (a := bitV .or .i64 (shV .shl .i64 (e1.toNat : Int) 24) (shV .shl .i64 (e2.toNat : Int) 16)) (b := shV .shl .i64 (e3.toNat : Int) 8) (bitV .or .i64 (bitV .or .i64 (shV .shl .i64 (e1.toNat : Int) 24) (shV .shl .i64 (e2.toNat : Int) 16)) (shV .shl .i64 (e3.toNat : Int) 8)) (by kernel_rfl) (by kernel_rfl) (by kernel_rfl) (by kernel_rfl) (bitS_or _ _ _) ?_
   refine At.a 3 ?_
   refine At.sI 54 (4 * (k : Int)) (by omega) ?_
   refine At.a 1 ?_
   refine At.sI 55 ((4 * (k : Int)) + 3) (by omega) ?_
   refine At.iSl 32 56 (.tmp 52) (.tmp 55) false 1 (b.map encU8) .i64 ((4 * (k : Int)) + 3) 5 (by omega) (by simp only [List.length_map]; omega) ?_
   refine Exists.elim (gE b (((4 * (k : Int)) + 3).toNat) (by omega)) fun e4 he4 => ?_
   have hbe4 := UInt8.toNat_lt e4
   refine At.lVp 5 57 (.tmp 56) false 1 (b.map encU8) (((4 * (k : Int)) + 3).toNat) 0 false 1 (encU8 e4) (.int .u8 (e4.toNat : Int)) (mapGet he4) ?_
   refine At.conv (s := 5) (t := 3) (d := 58) (x := .tmp 57) (kd := .u8) (kd' := .i64) (a := (e4.toNat : Int)) (.int .i64 (e4.toNat : Int)) (by kernel_rfl) (by kernel_rfl) (by kernel_rfl) (by kernel_rfl) (sayI _ (by have := UInt8.toNat_lt e4; omega)) ?_
   refine At.bits (t := 3) (u := 3) (d := 59) (op := .or) (x := .tmp 51) (y := .tmp 58) (kd := .i64) (a := bitV .or .i64 (bitV .or .i64 (shV .shl .i64 (e1.toNat : Int) 24) (shV .shl .i64 (e2.toNat : Int) 16)) (shV .shl .i64 (e3.toNat : Int) 8)) (b := (e4.toNat : Int)) (wordI b k) (by kernel_rfl) (by kernel_rfl) (by kernel_rfl) (by kernel_rfl) ((bitS_or _ _ _).trans (congrArg some ((orQuad _ _ _ _).trans (word_eq he1 he2 he3 he4)))) ?_
   refine At.ll 60 3 1 160 (0, 6) (([(wordI b k)]).map encI) ?_
   refine At.apK 61 3 1 8 161 121 160 encI l ([(wordI b k)]) (by simp only [List.length_map, List.length_append, List.length_take, List.length_drop, List.length_replicate, List.length_set, List.length_cons, List.length_nil]; omega) ?_
   refine At.zD 1 ?_
   refine AW.g ?_
   refine At.a 2 ?_
   refine At.sI 25 ((k : Int) + 1) (by omega) ?_
   refine At.z 1 ?_
   exact ⟨(k + 1, (l ++ ([(wordI b k)]))), ⟨by omega, by rw [hq, wordsI_succ], by simp [hl]⟩, (by simp only; omega), Sub.o [(161, 121)] [true, true, false, false, false, true, true]⟩
 refine AW.exit ?_
 refine AW.seq ?_
 refine AW.q 1 ?_
 refine AW.block ?_
 refine AW.loopW (fun (x : Nat × List Int) => match x with | (t, l) => Go.Sy.mk [.sl false 1 (h.map encI), .un, .un, .un, .un, .ref 121, .un, .int .i64 (t : Int)] [(121, .arr 3 1 (l.map encI))]) (fun (x : Nat × List Int) => match x with | (t, l) => 16 ≤ t ∧ t ≤ 64 ∧ l.length = t ∧ AllW l ∧ schedI b = extW (64 - t) l) (fun (x : Nat × List Int) => match x with | (t, l) => 64 - t) (16, l) ⟨by omega, by omega, by omega, by rw [hq]; exact wordsI_all _ _, by rw [hq, show k = 16 by omega]; rfl⟩ (Sub.o [(121, 121)] [true, false, false, false, false, true, false, true]) ?_
 rintro ⟨t, l⟩ ⟨ht1, ht2, hl, hqa, hR⟩
 refine AW.seq ?_
 refine AW.q 2 ?_
 refine AW.cD ((t : Int) < 64) (fun h2 => ?_) (fun h2 => ?_)
 · refine AW.skip ?_
   refine AW.seq ?_
   refine AW.block ?_
   refine AW.seq ?_
   refine AW.gD Try_mix ?_
   refine At.a 3 ?_
   refine At.sI 68 ((t : Int) - 15) (by omega) ?_
   refine At.iRf 39 69 (.tmp 66) (.tmp 68) 121 (l.map encI) .i64 ((t : Int) - 15) 3 1 (by omega) (by simp only [List.length_map]; omega) ?_
   refine Exists.elim (gE l (((t : Int) - 15).toNat) (by omega)) fun e5 he5 => ?_
   have hbe5 := hqa _ (List.mem_of_getElem? he5)
   have hsAe5 := sgA_bd hbe5
   have hsBe5 := sgB_bd hbe5
   unfold W32 at hbe5
   unfold W32 sgA at hsAe5
   unfold W32 sgB at hsBe5
   refine At.lEl 3 70 (.tmp 69) 121 3 1 (l.map encI) (((t : Int) - 15).toNat) 0 false 1 (encI e5) (.int .i64 e5) (mapGet he5) ?_
   refine At.c (spec_l2Turn_spec  e5 7 (by omega) (by omega)) Try.call56 true [] [] [] trivial ?_
   refine At.a 3 ?_
   refine At.sI 74 ((t : Int) - 15) (by omega) ?_
   refine At.iRf 39 75 (.tmp 72) (.tmp 74) 121 (l.map encI) .i64 ((t : Int) - 15) 3 1 (by omega) (by simp only [List.length_map]; omega) ?_
   refine At.lEl 3 76 (.tmp 75) 121 3 1 (l.map encI) (((t : Int) - 15).toNat) 0 false 1 (encI e5) (.int .i64 e5) (mapGet he5) ?_
   refine At.c (spec_l2Turn_spec  e5 18 (by omega) (by omega)) Try.call56 true [] [] [] trivial ?_
   refine At.bits (t := 3) (u := 3) (d := 78) (op := .xor) (x := .tmp 71) (y := .tmp 77) (kd := .i64) (a := turnI e5 7) (b := turnI e5 18) (bitV .xor .i64 (turnI e5 7) (turnI e5 18)) (by kernel_rfl) (by kernel_rfl) (by kernel_rfl) (by kernel_rfl) (bitS_xor _ _ _) ?_
   refine At.a 3 ?_
   refine At.sI 81 ((t : Int) - 15) (by omega) ?_
   refine At.iRf 39 82 (.tmp 79) (.tmp 81) 121 (l.map encI) .i64 ((t : Int) - 15) 3 1 (by omega) (by simp only [List.length_map]; omega) ?_
   refine At.lEl 3 83 (.tmp 82) 121 3 1 (l.map encI) (((t : Int) - 15).toNat) 0 false 1 (encI e5) (.int .i64 e5) (mapGet he5) ?_
   refine At.shift (t := 3) (u := 63) (d := 84) (op := .shr) (x := .tmp 83) (y := .const (.int .u64 3)) (kd := .i64) (kd' := .u64) (a := e5) (b := 3) (shV .shr .i64 e5 3) (by kernel_rfl) (by kernel_rfl) (by kernel_rfl) (by kernel_rfl) (by omega) (shS_shr _ _ _) ?_
   refine At.bits (t := 3) (u := 3) (d := 85) (op := .xor) (x := .tmp 78) (y := .tmp 84) (kd := .i64) (a := bitV .xor .i64 (turnI e5 7) (turnI e5 18)) (b := shV .shr .i64 e5 3) (bitV .xor .i64 (bitV .xor .i64 (turnI e5 7) (turnI e5 18)) (shV .shr .i64 e5 3)) (by kernel_rfl) (by kernel_rfl) (by kernel_rfl) (by kernel_rfl) (bitS_xor _ _ _) ?_
   refine At.zD 1 ?_
   refine AW.seq ?_
   refine AW.gD Try_mix ?_
   refine At.a 3 ?_
   refine At.sI 88 ((t : Int) - 2) (by omega) ?_
   refine At.iRf 39 89 (.tmp 86) (.tmp 88) 121 (l.map encI) .i64 ((t : Int) - 2) 3 1 (by omega) (by simp only [List.length_map]; omega) ?_
   refine Exists.elim (gE l (((t : Int) - 2).toNat) (by omega)) fun e6 he6 => ?_
   have hbe6 := hqa _ (List.mem_of_getElem? he6)
   have hsAe6 := sgA_bd hbe6
   have hsBe6 := sgB_bd hbe6
   unfold W32 at hbe6
   unfold W32 sgA at hsAe6
   unfold W32 sgB at hsBe6
   refine At.lEl 3 90 (.tmp 89) 121 3 1 (l.map encI) (((t : Int) - 2).toNat) 0 false 1 (encI e6) (.int .i64 e6) (mapGet he6) ?_
   refine At.c (spec_l2Turn_spec  e6 17 (by omega) (by omega)) Try.call56 true [] [] [] trivial ?_
   refine At.a 3 ?_
   refine At.sI 94 ((t : Int) - 2) (by omega) ?_
   refine At.iRf 39 95 (.tmp 92) (.tmp 94) 121 (l.map encI) .i64 ((t : Int) - 2) 3 1 (by omega) (by simp only [List.length_map]; omega) ?_
   refine At.lEl 3 96 (.tmp 95) 121 3 1 (l.map encI) (((t : Int) - 2).toNat) 0 false 1 (encI e6) (.int .i64 e6) (mapGet he6) ?_
   refine At.c (spec_l2Turn_spec  e6 19 (by omega) (by omega)) Try.call56 true [] [] [] trivial ?_
   refine At.bits (t := 3) (u := 3) (d := 98) (op := .xor) (x := .tmp 91) (y := .tmp 97) (kd := .i64) (a := turnI e6 17) (b := turnI e6 19) (bitV .xor .i64 (turnI e6 17) (turnI e6 19)) (by kernel_rfl) (by kernel_rfl) (by kernel_rfl) (by kernel_rfl) (bitS_xor _ _ _) ?_
   refine At.a 3 ?_
   refine At.sI 101 ((t : Int) - 2) (by omega) ?_
   refine At.iRf 39 102 (.tmp 99) (.tmp 101) 121 (l.map encI) .i64 ((t : Int) - 2) 3 1 (by omega) (by simp only [List.length_map]; omega) ?_
   refine At.lEl 3 103 (.tmp 102) 121 3 1 (l.map encI) (((t : Int) - 2).toNat) 0 false 1 (encI e6) (.int .i64 e6) (mapGet he6) ?_
   refine At.shift (t := 3) (u := 63) (d := 104) (op := .shr) (x := .tmp 103) (y := .const (.int .u64 10)) (kd := .i64) (kd' := .u64) (a := e6) (b := 10) (shV .shr .i64 e6 10) (by kernel_rfl) (by kernel_rfl) (by kernel_rfl) (by kernel_rfl) (by omega) (shS_shr _ _ _) ?_
   refine At.bits (t := 3) (u := 3) (d := 105) (op := .xor) (x := .tmp 98) (y := .tmp 104) (kd := .i64) (a := bitV .xor .i64 (turnI e6 17) (turnI e6 19)) (b := shV .shr .i64 e6 10) (bitV .xor .i64 (bitV .xor .i64 (turnI e6 17) (turnI e6 19)) (shV .shr .i64 e6 10)) (by kernel_rfl) (by kernel_rfl) (by kernel_rfl) (by kernel_rfl) (bitS_xor _ _ _) ?_
   refine At.zD 1 ?_
   refine AW.gD Try_mix ?_
   refine At.a 5 ?_
   refine At.sI 110 ((t : Int) - 7) (by omega) ?_
   refine At.iRf 39 111 (.tmp 108) (.tmp 110) 121 (l.map encI) .i64 ((t : Int) - 7) 3 1 (by omega) (by simp only [List.length_map]; omega) ?_
   refine Exists.elim (gE l (((t : Int) - 7).toNat) (by omega)) fun e7 he7 => ?_
   have hbe7 := hqa _ (List.mem_of_getElem? he7)
   have hsAe7 := sgA_bd hbe7
   have hsBe7 := sgB_bd hbe7
   unfold W32 at hbe7
   unfold W32 sgA at hsAe7
   unfold W32 sgB at hsBe7
   refine At.lEl 3 112 (.tmp 111) 121 3 1 (l.map encI) (((t : Int) - 7).toNat) 0 false 1 (encI e7) (.int .i64 e7) (mapGet he7) ?_
   refine At.a 1 ?_
   refine At.sI 113 ((bitV .xor .i64 (bitV .xor .i64 (turnI e6 17) (turnI e6 19)) (shV .shr .i64 e6 10)) + e7) (by omega) ?_
   refine At.a 2 ?_
   refine At.sI 115 (((bitV .xor .i64 (bitV .xor .i64 (turnI e6 17) (turnI e6 19)) (shV .shr .i64 e6 10)) + e7) + (bitV .xor .i64 (bitV .xor .i64 (turnI e5 7) (turnI e5 18)) (shV .shr .i64 e5 3))) (by omega) ?_
   refine At.a 3 ?_
   refine At.sI 118 ((t : Int) - 16) (by omega) ?_
   refine At.iRf 39 119 (.tmp 116) (.tmp 118) 121 (l.map encI) .i64 ((t : Int) - 16) 3 1 (by omega) (by simp only [List.length_map]; omega) ?_
   refine Exists.elim (gE l (((t : Int) - 16).toNat) (by omega)) fun e8 he8 => ?_
   have hbe8 := hqa _ (List.mem_of_getElem? he8)
   have hsAe8 := sgA_bd hbe8
   have hsBe8 := sgB_bd hbe8
   unfold W32 at hbe8
   unfold W32 sgA at hsAe8
   unfold W32 sgB at hsBe8
   refine At.lEl 3 120 (.tmp 119) 121 3 1 (l.map encI) (((t : Int) - 16).toNat) 0 false 1 (encI e8) (.int .i64 e8) (mapGet he8) ?_
   refine At.a 1 ?_
   refine At.sI 121 ((((bitV .xor .i64 (bitV .xor .i64 (turnI e6 17) (turnI e6 19)) (shV .shr .i64 e6 10)) + e7) + (bitV .xor .i64 (bitV .xor .i64 (turnI e5 7) (turnI e5 18)) (shV .shr .i64 e5 3))) + e8) (by omega) ?_
   refine At.c (spec_l2Low_spec  ((((bitV .xor .i64 (bitV .xor .i64 (turnI e6 17) (turnI e6 19)) (shV .shr .i64 e6 10)) + e7) + (bitV .xor .i64 (bitV .xor .i64 (turnI e5 7) (turnI e5 18)) (shV .shr .i64 e5 3))) + e8) ) Try.call57 true [] [] [] trivial ?_
   refine At.ll 123 3 1 223 (0, 6) (([((((bitV .xor .i64 (bitV .xor .i64 (turnI e6 17) (turnI e6 19)) (shV .shr .i64 e6 10)) + e7) + (bitV .xor .i64 (bitV .xor .i64 (turnI e5 7) (turnI e5 18)) (shV .shr .i64 e5 3))) + e8) % 4294967296]).map encI) ?_
   refine At.append (t := 39) (d := 124) (e := 3) (es := 1) (bytes := 8) (s := .tmp 106) (x := .tmp 123) (S := .ref 121) (T := .ref 223) (xs := (l.map encI)) (ys := (([((((bitV .xor .i64 (bitV .xor .i64 (turnI e6 17) (turnI e6 19)) (shV .shr .i64 e6 10)) + e7) + (bitV .xor .i64 (bitV .xor .i64 (turnI e5 7) (turnI e5 18)) (shV .shr .i64 e5 3))) + e8) % 4294967296]).map encI)) 224 [121] [223] ((l ++ [nxW l]).map encI) (by kernel_rfl) (by kernel_rfl) (by kernel_rfl) (by kernel_rfl) ⟨by kernel_rfl, rfl⟩ ⟨by kernel_rfl, .inr rfl⟩ (by kernel_rfl) (by kernel_rfl) (appW (nx_of2 hl (atI_get (nat_at he5 (by omega))) (atI_get (nat_at he6 (by omega))) (atI_get (nat_at he7 (by omega))) (atI_get (nat_at he8 (by omega))))) (by simp only [List.length_map, List.length_append, List.length_take, List.length_drop, List.length_replicate, List.length_set, List.length_cons, List.length_nil]; omega) (by simp only [List.length_map, List.length_append, List.length_take, List.length_drop, List.length_replicate, List.length_set, List.length_cons, List.length_nil]; omega) ?_
   refine At.zD 1 ?_
   refine AW.g ?_
   refine At.a 2 ?_
   refine At.sI 65 ((t : Int) + 1) (by omega) ?_
   refine At.z 1 ?_
   exact ⟨(t + 1, l ++ [nxW l]), ⟨by omega, by omega, by simp [hl], hqa.snoc (nxW_bd l), by rw [hR, ext_step (by omega)]⟩, (by simp only; omega), Sub.o [(224, 121)] [true, false, false, false, false, true, false, true]⟩
 refine AW.exit ?_
 refine AW.r ?_
 refine At.c (spec_l2Keys_spec   ) Try.call58 true [] [(3500, 0)] [] trivial ?_
 refine At.z 1 ?_
 refine AW.r ?_
 refine At.lit0 (t := 39) (d := 126) (e := 3) (es := 1) (bytes := 8) 226 (by kernel_rfl) (by kernel_rfl) (by kernel_rfl) (by kernel_rfl) ?_
 refine At.a 1 ?_
 refine At.append (t := 39) (d := 128) (e := 3) (es := 1) (bytes := 8) (s := .tmp 126) (x := .tmp 127) (S := .ref 226) (T := .sl false 1 (h.map encI)) (xs := []) (ys := (h.map encI)) 228 [226] [] (([atI h 0, atI h 1, atI h 2, atI h 3, atI h 4, atI h 5, atI h 6, atI h 7]).map encI) (by kernel_rfl) (by kernel_rfl) (by kernel_rfl) (by kernel_rfl) ⟨by kernel_rfl, rfl⟩ ⟨rfl, rfl, (allP_encI _), rfl⟩ (by kernel_rfl) (by kernel_rfl) (by rw [← eight hh]; rfl) (by simp only [List.length_map, List.length_append, List.length_take, List.length_drop, List.length_replicate, List.length_set, List.length_cons, List.length_nil]; omega) (by simp only [List.length_map, List.length_append, List.length_take, List.length_drop, List.length_replicate, List.length_set, List.length_cons, List.length_nil]; omega) ?_
 refine At.z 1 ?_
 refine AW.seq ?_
 refine AW.q 1 ?_
 refine AW.block ?_
 have hls : l = schedI b := by rw [hR, show 64 - t = 0 by omega]; rfl
 have hl64 : l.length = 64 := by omega
 refine AW.loopW (fun (x : Nat × V8) => match x with | (t, v) => Go.Sy.mk [.sl false 1 (h.map encI), .un, .un, .un, .un, .ref 121, .un, .un, .un, .un, .ref 3500, .ref 228, .int .i64 (t : Int)] [(121, .arr 3 1 (l.map encI)), (228, .arr 3 1 (([v.a, v.b, v.c, v.d, v.e, v.f, v.g, v.h]).map encI)), (3500, .arr 3 1 (keysI.map encI))]) (fun (x : Nat × V8) => match x with | (t, v) => t ≤ 64 ∧ v.all ∧ runV keysI l (V8.of h) = runV (keysI.drop t) (l.drop t) v) (fun (x : Nat × V8) => match x with | (t, v) => 64 - t) (0, V8.of h) ⟨by omega, of_all ha, rfl⟩ (Sub.o [(121, 121), (228, 228), (3500, 3500)] [true, false, false, false, false, true, false, false, false, false, true, true, true]) ?_
 rintro ⟨t, v⟩ ⟨ht, hv, hR⟩
 have hC := sgC_bd v.e
 have hD := sgD_bd v.a
 obtain ⟨v1, v2, v3, v4, v5, v6, v7, v8⟩ := id hv
 have hch := ch_bd v5 v6 v7
 have hmj := mj_bd v1 v2 v3
 unfold W32 sgC at hC
 unfold W32 sgD at hD
 unfold W32 chI at hch
 unfold W32 mjI at hmj
 unfold W32 at v1 v2 v3 v4 v5 v6 v7 v8
 refine AW.seq ?_
 refine AW.q 2 ?_
 refine AW.cD ((t : Int) < 64) (fun h3 => ?_) (fun h3 => ?_)
 · refine AW.skip ?_
   refine AW.seq ?_
   refine AW.block ?_
   refine AW.seq ?_
   refine AW.gD Try_mix ?_
   refine At.a 1 ?_
   refine At.iRf 39 134 (.tmp 133) (.const (.int .i64 4)) 228 (([v.a, v.b, v.c, v.d, v.e, v.f, v.g, v.h]).map encI) .i64 4 3 1 (by omega) (by simp only [List.length_map, List.length_append, List.length_take, List.length_drop, List.length_replicate, List.length_set, List.length_cons, List.length_nil]; omega) ?_
   refine At.lEl 3 135 (.tmp 134) 228 3 1 (([v.a, v.b, v.c, v.d, v.e, v.f, v.g, v.h]).map encI) 4 0 false 1 (encI v.e) (.int .i64 v.e) (mapGet (show ([v.a, v.b, v.c, v.d, v.e, v.f, v.g, v.h] : List Int)[4]? = some (v.e) from rfl)) ?_
   refine At.a 1 ?_
   refine At.iRf 39 137 (.tmp 136) (.const (.int .i64 0)) 228 (([v.a, v.b, v.c, v.d, v.e, v.f, v.g, v.h]).map encI) .i64 0 3 1 (by omega) (by simp only [List.length_map, List.length_append, List.length_take, List.length_drop, List.length_replicate, List.length_set, List.length_cons, List.length_nil]; omega) ?_
   refine At.lEl 3 138 (.tmp 137) 228 3 1 (([v.a, v.b, v.c, v.d, v.e, v.f, v.g, v.h]).map encI) 0 0 false 1 (encI v.a) (.int .i64 v.a) (mapGet (show ([v.a, v.b, v.c, v.d, v.e, v.f, v.g, v.h] : List Int)[0]? = some (v.a) from rfl)) ?_
   refine At.zD 2 ?_
   refine AW.seq ?_
   refine AW.gD Try_mix ?_
   refine At.a 2 ?_
   refine At.iRf 39 141 (.tmp 140) (.const (.int .i64 5)) 228 (([v.a, v.b, v.c, v.d, v.e, v.f, v.g, v.h]).map encI) .i64 5 3 1 (by omega) (by simp only [List.length_map, List.length_append, List.length_take, List.length_drop, List.length_replicate, List.length_set, List.length_cons, List.length_nil]; omega) ?_
   refine At.lEl 3 142 (.tmp 141) 228 3 1 (([v.a, v.b, v.c, v.d, v.e, v.f, v.g, v.h]).map encI) 5 0 false 1 (encI v.f) (.int .i64 v.f) (mapGet (show ([v.a, v.b, v.c, v.d, v.e, v.f, v.g, v.h] : List Int)[5]? = some (v.f) from rfl)) ?_
   refine At.bits (t := 3) (u := 3) (d := 143) (op := .and) (x := .tmp 139) (y := .tmp 142) (kd := .i64) (a := v.e) (b := v.f) (bitV .and .i64 v.e v.f) (by kernel_rfl) (by kernel_rfl) (by kernel_rfl) (by kernel_rfl) (bitS_and _ _ _) ?_
   refine At.a 1 ?_
   refine At.bits (t := 3) (u := 3) (d := 145) (op := .xor) (x := .const (.int .i64 4294967295)) (y := .tmp 144) (kd := .i64) (a := 4294967295) (b := v.e) (bitV .xor .i64 4294967295 v.e) (by kernel_rfl) (by kernel_rfl) (by kernel_rfl) (by kernel_rfl) (bitS_xor _ _ _) ?_
   refine At.a 1 ?_
   refine At.iRf 39 147 (.tmp 146) (.const (.int .i64 6)) 228 (([v.a, v.b, v.c, v.d, v.e, v.f, v.g, v.h]).map encI) .i64 6 3 1 (by omega) (by simp only [List.length_map, List.length_append, List.length_take, List.length_drop, List.length_replicate, List.length_set, List.length_cons, List.length_nil]; omega) ?_
   refine At.lEl 3 148 (.tmp 147) 228 3 1 (([v.a, v.b, v.c, v.d, v.e, v.f, v.g, v.h]).map encI) 6 0 false 1 (encI v.g) (.int .i64 v.g) (mapGet (show ([v.a, v.b, v.c, v.d, v.e, v.f, v.g, v.h] : List Int)[6]? = some (v.g) from rfl)) ?_
   refine At.bits (t := 3) (u := 3) (d := 149) (op := .and) (x := .tmp 145) (y := .tmp 148) (kd := .i64) (a := bitV .xor .i64 4294967295 v.e) (b := v.g) (bitV .and .i64 (bitV .xor .i64 4294967295 v.e) v.g) (by kernel_rfl) (by kernel_rfl) (by kernel_rfl) (by kernel_rfl) (bitS_and _ _ _) ?_
   refine At.bits (t := 3) (u := 3) (d := 150) (op := .xor) (x := .tmp 143) (y := .tmp 149) (kd := .i64) (a := bitV .and .i64 v.e v.f) (b := bitV .and .i64 (bitV .xor .i64 4294967295 v.e) v.g) (bitV .xor .i64 (bitV .and .i64 v.e v.f) (bitV .and .i64 (bitV .xor .i64 4294967295 v.e) v.g)) (by kernel_rfl) (by kernel_rfl) (by kernel_rfl) (by kernel_rfl) (bitS_xor _ _ _) ?_
   refine At.zD 1 ?_
   refine AW.seq ?_
   refine AW.gD Try_mix ?_
   refine At.a 1 ?_
   refine At.iRf 39 152 (.tmp 151) (.const (.int .i64 7)) 228 (([v.a, v.b, v.c, v.d, v.e, v.f, v.g, v.h]).map encI) .i64 7 3 1 (by omega) (by simp only [List.length_map, List.length_append, List.length_take, List.length_drop, List.length_replicate, List.length_set, List.length_cons, List.length_nil]; omega) ?_
   refine At.lEl 3 153 (.tmp 152) 228 3 1 (([v.a, v.b, v.c, v.d, v.e, v.f, v.g, v.h]).map encI) 7 0 false 1 (encI v.h) (.int .i64 v.h) (mapGet (show ([v.a, v.b, v.c, v.d, v.e, v.f, v.g, v.h] : List Int)[7]? = some (v.h) from rfl)) ?_
   refine At.a 1 ?_
   refine At.c (spec_l2Turn_spec  v.e 6 (by omega) (by omega)) Try.call56 true [] [] [] trivial ?_
   refine At.a 1 ?_
   refine At.c (spec_l2Turn_spec  v.e 11 (by omega) (by omega)) Try.call56 true [] [] [] trivial ?_
   refine At.bits (t := 3) (u := 3) (d := 158) (op := .xor) (x := .tmp 155) (y := .tmp 157) (kd := .i64) (a := turnI v.e 6) (b := turnI v.e 11) (bitV .xor .i64 (turnI v.e 6) (turnI v.e 11)) (by kernel_rfl) (by kernel_rfl) (by kernel_rfl) (by kernel_rfl) (bitS_xor _ _ _) ?_
   refine At.a 1 ?_
   refine At.c (spec_l2Turn_spec  v.e 25 (by omega) (by omega)) Try.call56 true [] [] [] trivial ?_
   refine At.bits (t := 3) (u := 3) (d := 161) (op := .xor) (x := .tmp 158) (y := .tmp 160) (kd := .i64) (a := bitV .xor .i64 (turnI v.e 6) (turnI v.e 11)) (b := turnI v.e 25) (bitV .xor .i64 (bitV .xor .i64 (turnI v.e 6) (turnI v.e 11)) (turnI v.e 25)) (by kernel_rfl) (by kernel_rfl) (by kernel_rfl) (by kernel_rfl) (bitS_xor _ _ _) ?_
   refine At.a 1 ?_
   refine At.sI 162 (v.h + (bitV .xor .i64 (bitV .xor .i64 (turnI v.e 6) (turnI v.e 11)) (turnI v.e 25))) (by omega) ?_
   refine At.a 2 ?_
   refine At.sI 164 ((v.h + (bitV .xor .i64 (bitV .xor .i64 (turnI v.e 6) (turnI v.e 11)) (turnI v.e 25))) + (bitV .xor .i64 (bitV .and .i64 v.e v.f) (bitV .and .i64 (bitV .xor .i64 4294967295 v.e) v.g))) (by omega) ?_
   refine At.a 2 ?_
   refine At.iRf 39 167 (.tmp 165) (.tmp 166) 3500 (keysI.map encI) .i64 (t : Int) 3 1 (by omega) (by simp only [List.length_map]; omega) ?_
   refine Exists.elim (gE keysI t (by omega)) fun e9 he9 => ?_
   have hbe9 := keysI_bd _ (List.mem_of_getElem? he9)
   unfold W32 at hbe9
   refine At.lEl 3 168 (.tmp 167) 3500 3 1 (keysI.map encI) t 0 false 1 (encI e9) (.int .i64 e9) (mapGet he9) ?_
   refine At.a 1 ?_
   refine At.sI 169 (((v.h + (bitV .xor .i64 (bitV .xor .i64 (turnI v.e 6) (turnI v.e 11)) (turnI v.e 25))) + (bitV .xor .i64 (bitV .and .i64 v.e v.f) (bitV .and .i64 (bitV .xor .i64 4294967295 v.e) v.g))) + e9) (by omega) ?_
   refine At.a 2 ?_
   refine At.iRf 39 172 (.tmp 170) (.tmp 171) 121 (l.map encI) .i64 (t : Int) 3 1 (by omega) (by simp only [List.length_map]; omega) ?_
   refine Exists.elim (gE l t (by omega)) fun e10 he10 => ?_
   have hbe10 := hqa _ (List.mem_of_getElem? he10)
   unfold W32 at hbe10
   refine At.lEl 3 173 (.tmp 172) 121 3 1 (l.map encI) t 0 false 1 (encI e10) (.int .i64 e10) (mapGet he10) ?_
   refine At.a 1 ?_
   refine At.sI 174 ((((v.h + (bitV .xor .i64 (bitV .xor .i64 (turnI v.e 6) (turnI v.e 11)) (turnI v.e 25))) + (bitV .xor .i64 (bitV .and .i64 v.e v.f) (bitV .and .i64 (bitV .xor .i64 4294967295 v.e) v.g))) + e9) + e10) (by omega) ?_
   refine At.c (spec_l2Low_spec  ((((v.h + (bitV .xor .i64 (bitV .xor .i64 (turnI v.e 6) (turnI v.e 11)) (turnI v.e 25))) + (bitV .xor .i64 (bitV .and .i64 v.e v.f) (bitV .and .i64 (bitV .xor .i64 4294967295 v.e) v.g))) + e9) + e10) ) Try.call57 true [] [] [] trivial ?_
   refine At.zD 1 ?_
   refine AW.seq ?_
   refine AW.gD Try_mix ?_
   refine At.a 2 ?_
   refine At.iRf 39 178 (.tmp 177) (.const (.int .i64 1)) 228 (([v.a, v.b, v.c, v.d, v.e, v.f, v.g, v.h]).map encI) .i64 1 3 1 (by omega) (by simp only [List.length_map, List.length_append, List.length_take, List.length_drop, List.length_replicate, List.length_set, List.length_cons, List.length_nil]; omega) ?_
   refine At.lEl 3 179 (.tmp 178) 228 3 1 (([v.a, v.b, v.c, v.d, v.e, v.f, v.g, v.h]).map encI) 1 0 false 1 (encI v.b) (.int .i64 v.b) (mapGet (show ([v.a, v.b, v.c, v.d, v.e, v.f, v.g, v.h] : List Int)[1]? = some (v.b) from rfl)) ?_
   refine At.bits (t := 3) (u := 3) (d := 180) (op := .and) (x := .tmp 176) (y := .tmp 179) (kd := .i64) (a := v.a) (b := v.b) (bitV .and .i64 v.a v.b) (by kernel_rfl) (by kernel_rfl) (by kernel_rfl) (by kernel_rfl) (bitS_and _ _ _) ?_
   refine At.a 2 ?_
   refine At.iRf 39 183 (.tmp 182) (.const (.int .i64 2)) 228 (([v.a, v.b, v.c, v.d, v.e, v.f, v.g, v.h]).map encI) .i64 2 3 1 (by omega) (by simp only [List.length_map, List.length_append, List.length_take, List.length_drop, List.length_replicate, List.length_set, List.length_cons, List.length_nil]; omega) ?_
   refine At.lEl 3 184 (.tmp 183) 228 3 1 (([v.a, v.b, v.c, v.d, v.e, v.f, v.g, v.h]).map encI) 2 0 false 1 (encI v.c) (.int .i64 v.c) (mapGet (show ([v.a, v.b, v.c, v.d, v.e, v.f, v.g, v.h] : List Int)[2]? = some (v.c) from rfl)) ?_
   refine At.bits (t := 3) (u := 3) (d := 185) (op := .and) (x := .tmp 181) (y := .tmp 184) (kd := .i64) (a := v.a) (b := v.c) (bitV .and .i64 v.a v.c) (by kernel_rfl) (by kernel_rfl) (by kernel_rfl) (by kernel_rfl) (bitS_and _ _ _) ?_
   refine At.bits (t := 3) (u := 3) (d := 186) (op := .xor) (x := .tmp 180) (y := .tmp 185) (kd := .i64) (a := bitV .and .i64 v.a v.b) (b := bitV .and .i64 v.a v.c) (bitV .xor .i64 (bitV .and .i64 v.a v.b) (bitV .and .i64 v.a v.c)) (by kernel_rfl) (by kernel_rfl) (by kernel_rfl) (by kernel_rfl) (bitS_xor _ _ _) ?_
   refine At.a 1 ?_
   refine At.iRf 39 188 (.tmp 187) (.const (.int .i64 1)) 228 (([v.a, v.b, v.c, v.d, v.e, v.f, v.g, v.h]).map encI) .i64 1 3 1 (by omega) (by simp only [List.length_map, List.length_append, List.length_take, List.length_drop, List.length_replicate, List.length_set, List.length_cons, List.length_nil]; omega) ?_
   refine At.lEl 3 189 (.tmp 188) 228 3 1 (([v.a, v.b, v.c, v.d, v.e, v.f, v.g, v.h]).map encI) 1 0 false 1 (encI v.b) (.int .i64 v.b) (mapGet (show ([v.a, v.b, v.c, v.d, v.e, v.f, v.g, v.h] : List Int)[1]? = some (v.b) from rfl)) ?_
   refine At.a 1 ?_
   refine At.iRf 39 191 (.tmp 190) (.const (.int .i64 2)) 228 (([v.a, v.b, v.c, v.d, v.e, v.f, v.g, v.h]).map encI) .i64 2 3 1 (by omega) (by simp only [List.length_map, List.length_append, List.length_take, List.length_drop, List.length_replicate, List.length_set, List.length_cons, List.length_nil]; omega) ?_
   refine At.lEl 3 192 (.tmp 191) 228 3 1 (([v.a, v.b, v.c, v.d, v.e, v.f, v.g, v.h]).map encI) 2 0 false 1 (encI v.c) (.int .i64 v.c) (mapGet (show ([v.a, v.b, v.c, v.d, v.e, v.f, v.g, v.h] : List Int)[2]? = some (v.c) from rfl)) ?_
   refine At.bits (t := 3) (u := 3) (d := 193) (op := .and) (x := .tmp 189) (y := .tmp 192) (kd := .i64) (a := v.b) (b := v.c) (bitV .and .i64 v.b v.c) (by kernel_rfl) (by kernel_rfl) (by kernel_rfl) (by kernel_rfl) (bitS_and _ _ _) ?_
   refine At.bits (t := 3) (u := 3) (d := 194) (op := .xor) (x := .tmp 186) (y := .tmp 193) (kd := .i64) (a := bitV .xor .i64 (bitV .and .i64 v.a v.b) (bitV .and .i64 v.a v.c)) (b := bitV .and .i64 v.b v.c) (bitV .xor .i64 (bitV .xor .i64 (bitV .and .i64 v.a v.b) (bitV .and .i64 v.a v.c)) (bitV .and .i64 v.b v.c)) (by kernel_rfl) (by kernel_rfl) (by kernel_rfl) (by kernel_rfl) (bitS_xor _ _ _) ?_
   refine At.zD 1 ?_
   refine AW.r ?_
   refine At.a 1 ?_
   refine At.c (spec_l2Turn_spec  v.a 2 (by omega) (by omega)) Try.call56 true [] [] [] trivial ?_
   refine At.a 1 ?_
   refine At.c (spec_l2Turn_spec  v.a 13 (by omega) (by omega)) Try.call56 true [] [] [] trivial ?_
   refine At.bits (t := 3) (u := 3) (d := 199) (op := .xor) (x := .tmp 196) (y := .tmp 198) (kd := .i64) (a := turnI v.a 2) (b := turnI v.a 13) (bitV .xor .i64 (turnI v.a 2) (turnI v.a 13)) (by kernel_rfl) (by kernel_rfl) (by kernel_rfl) (by kernel_rfl) (bitS_xor _ _ _) ?_
   refine At.a 1 ?_
   refine At.c (spec_l2Turn_spec  v.a 22 (by omega) (by omega)) Try.call56 true [] [] [] trivial ?_
   refine At.bits (t := 3) (u := 3) (d := 202) (op := .xor) (x := .tmp 199) (y := .tmp 201) (kd := .i64) (a := bitV .xor .i64 (turnI v.a 2) (turnI v.a 13)) (b := turnI v.a 22) (bitV .xor .i64 (bitV .xor .i64 (turnI v.a 2) (turnI v.a 13)) (turnI v.a 22)) (by kernel_rfl) (by kernel_rfl) (by kernel_rfl) (by kernel_rfl) (bitS_xor _ _ _) ?_
   refine At.a 2 ?_
   refine At.sI 204 ((bitV .xor .i64 (bitV .xor .i64 (turnI v.a 2) (turnI v.a 13)) (turnI v.a 22)) + (bitV .xor .i64 (bitV .xor .i64 (bitV .and .i64 v.a v.b) (bitV .and .i64 v.a v.c)) (bitV .and .i64 v.b v.c))) (by omega) ?_
   refine At.c (spec_l2Low_spec  ((bitV .xor .i64 (bitV .xor .i64 (turnI v.a 2) (turnI v.a 13)) (turnI v.a 22)) + (bitV .xor .i64 (bitV .xor .i64 (bitV .and .i64 v.a v.b) (bitV .and .i64 v.a v.c)) (bitV .and .i64 v.b v.c))) ) Try.call57 true [] [] [] trivial ?_
   refine At.z 1 ?_
   refine AW.gD Try_mix ?_
   refine At.a 3 ?_
   refine At.sI 208 ((((((v.h + (bitV .xor .i64 (bitV .xor .i64 (turnI v.e 6) (turnI v.e 11)) (turnI v.e 25))) + (bitV .xor .i64 (bitV .and .i64 v.e v.f) (bitV .and .i64 (bitV .xor .i64 4294967295 v.e) v.g))) + e9) + e10) % 4294967296) + (((bitV .xor .i64 (bitV .xor .i64 (turnI v.a 2) (turnI v.a 13)) (turnI v.a 22)) + (bitV .xor .i64 (bitV .xor .i64 (bitV .and .i64 v.a v.b) (bitV .and .i64 v.a v.c)) (bitV .and .i64 v.b v.c))) % 4294967296)) (by omega) ?_
   refine At.c (spec_l2Low_spec  ((((((v.h + (bitV .xor .i64 (bitV .xor .i64 (turnI v.e 6) (turnI v.e 11)) (turnI v.e 25))) + (bitV .xor .i64 (bitV .and .i64 v.e v.f) (bitV .and .i64 (bitV .xor .i64 4294967295 v.e) v.g))) + e9) + e10) % 4294967296) + (((bitV .xor .i64 (bitV .xor .i64 (turnI v.a 2) (turnI v.a 13)) (turnI v.a 22)) + (bitV .xor .i64 (bitV .xor .i64 (bitV .and .i64 v.a v.b) (bitV .and .i64 v.a v.c)) (bitV .and .i64 v.b v.c))) % 4294967296)) ) Try.call57 true [] [] [] trivial ?_
   refine At.a 2 ?_
   refine At.iRf 39 212 (.tmp 211) (.const (.int .i64 1)) 228 (([v.a, v.b, v.c, v.d, v.e, v.f, v.g, v.h]).map encI) .i64 1 3 1 (by omega) (by simp only [List.length_map, List.length_append, List.length_take, List.length_drop, List.length_replicate, List.length_set, List.length_cons, List.length_nil]; omega) ?_
   refine At.lEl 3 213 (.tmp 212) 228 3 1 (([v.a, v.b, v.c, v.d, v.e, v.f, v.g, v.h]).map encI) 1 0 false 1 (encI v.b) (.int .i64 v.b) (mapGet (show ([v.a, v.b, v.c, v.d, v.e, v.f, v.g, v.h] : List Int)[1]? = some (v.b) from rfl)) ?_
   refine At.a 1 ?_
   refine At.iRf 39 215 (.tmp 214) (.const (.int .i64 2)) 228 (([v.a, v.b, v.c, v.d, v.e, v.f, v.g, v.h]).map encI) .i64 2 3 1 (by omega) (by simp only [List.length_map, List.length_append, List.length_take, List.length_drop, List.length_replicate, List.length_set, List.length_cons, List.length_nil]; omega) ?_
   refine At.lEl 3 216 (.tmp 215) 228 3 1 (([v.a, v.b, v.c, v.d, v.e, v.f, v.g, v.h]).map encI) 2 0 false 1 (encI v.c) (.int .i64 v.c) (mapGet (show ([v.a, v.b, v.c, v.d, v.e, v.f, v.g, v.h] : List Int)[2]? = some (v.c) from rfl)) ?_
   refine At.a 1 ?_
   refine At.iRf 39 218 (.tmp 217) (.const (.int .i64 3)) 228 (([v.a, v.b, v.c, v.d, v.e, v.f, v.g, v.h]).map encI) .i64 3 3 1 (by omega) (by simp only [List.length_map, List.length_append, List.length_take, List.length_drop, List.length_replicate, List.length_set, List.length_cons, List.length_nil]; omega) ?_
   refine At.lEl 3 219 (.tmp 218) 228 3 1 (([v.a, v.b, v.c, v.d, v.e, v.f, v.g, v.h]).map encI) 3 0 false 1 (encI v.d) (.int .i64 v.d) (mapGet (show ([v.a, v.b, v.c, v.d, v.e, v.f, v.g, v.h] : List Int)[3]? = some (v.d) from rfl)) ?_
   refine At.a 2 ?_
   refine At.sI 221 (v.d + (((((v.h + (bitV .xor .i64 (bitV .xor .i64 (turnI v.e 6) (turnI v.e 11)) (turnI v.e 25))) + (bitV .xor .i64 (bitV .and .i64 v.e v.f) (bitV .and .i64 (bitV .xor .i64 4294967295 v.e) v.g))) + e9) + e10) % 4294967296)) (by omega) ?_
   refine At.c (spec_l2Low_spec  (v.d + (((((v.h + (bitV .xor .i64 (bitV .xor .i64 (turnI v.e 6) (turnI v.e 11)) (turnI v.e 25))) + (bitV .xor .i64 (bitV .and .i64 v.e v.f) (bitV .and .i64 (bitV .xor .i64 4294967295 v.e) v.g))) + e9) + e10) % 4294967296)) ) Try.call57 true [] [] [] trivial ?_
   refine At.a 2 ?_
   refine At.iRf 39 225 (.tmp 224) (.const (.int .i64 5)) 228 (([v.a, v.b, v.c, v.d, v.e, v.f, v.g, v.h]).map encI) .i64 5 3 1 (by omega) (by simp only [List.length_map, List.length_append, List.length_take, List.length_drop, List.length_replicate, List.length_set, List.length_cons, List.length_nil]; omega) ?_
   refine At.lEl 3 226 (.tmp 225) 228 3 1 (([v.a, v.b, v.c, v.d, v.e, v.f, v.g, v.h]).map encI) 5 0 false 1 (encI v.f) (.int .i64 v.f) (mapGet (show ([v.a, v.b, v.c, v.d, v.e, v.f, v.g, v.h] : List Int)[5]? = some (v.f) from rfl)) ?_
   refine At.a 1 ?_
   refine At.iRf 39 228 (.tmp 227) (.const (.int .i64 6)) 228 (([v.a, v.b, v.c, v.d, v.e, v.f, v.g, v.h]).map encI) .i64 6 3 1 (by omega) (by simp only [List.length_map, List.length_append, List.length_take, List.length_drop, List.length_replicate, List.length_set, List.length_cons, List.length_nil]; omega) ?_
   refine At.lEl 3 229 (.tmp 228) 228 3 1 (([v.a, v.b, v.c, v.d, v.e, v.f, v.g, v.h]).map encI) 6 0 false 1 (encI v.g) (.int .i64 v.g) (mapGet (show ([v.a, v.b, v.c, v.d, v.e, v.f, v.g, v.h] : List Int)[6]? = some (v.g) from rfl)) ?_
   refine At.ll 230 3 1 330 (0, 6) (([((((((v.h + (bitV .xor .i64 (bitV .xor .i64 (turnI v.e 6) (turnI v.e 11)) (turnI v.e 25))) + (bitV .xor .i64 (bitV .and .i64 v.e v.f) (bitV .and .i64 (bitV .xor .i64 4294967295 v.e) v.g))) + e9) + e10) % 4294967296) + (((bitV .xor .i64 (bitV .xor .i64 (turnI v.a 2) (turnI v.a 13)) (turnI v.a 22)) + (bitV .xor .i64 (bitV .xor .i64 (bitV .and .i64 v.a v.b) (bitV .and .i64 v.a v.c)) (bitV .and .i64 v.b v.c))) % 4294967296)) % 4294967296, v.a, v.b, v.c, (v.d + (((((v.h + (bitV .xor .i64 (bitV .xor .i64 (turnI v.e 6) (turnI v.e 11)) (turnI v.e 25))) + (bitV .xor .i64 (bitV .and .i64 v.e v.f) (bitV .and .i64 (bitV .xor .i64 4294967295 v.e) v.g))) + e9) + e10) % 4294967296)) % 4294967296, v.e, v.f, v.g]).map encI) ?_
   refine At.zD 1 ?_
   refine AW.g ?_
   refine At.a 2 ?_
   refine At.sI 132 ((t : Int) + 1) (by omega) ?_
   refine At.z 1 ?_
   exact ⟨(t + 1, (⟨((((((v.h + (bitV .xor .i64 (bitV .xor .i64 (turnI v.e 6) (turnI v.e 11)) (turnI v.e 25))) + (bitV .xor .i64 (bitV .and .i64 v.e v.f) (bitV .and .i64 (bitV .xor .i64 4294967295 v.e) v.g))) + e9) + e10) % 4294967296) + (((bitV .xor .i64 (bitV .xor .i64 (turnI v.a 2) (turnI v.a 13)) (turnI v.a 22)) + (bitV .xor .i64 (bitV .xor .i64 (bitV .and .i64 v.a v.b) (bitV .and .i64 v.a v.c)) (bitV .and .i64 v.b v.c))) % 4294967296)) % 4294967296, v.a, v.b, v.c, (v.d + (((((v.h + (bitV .xor .i64 (bitV .xor .i64 (turnI v.e 6) (turnI v.e 11)) (turnI v.e 25))) + (bitV .xor .i64 (bitV .and .i64 v.e v.f) (bitV .and .i64 (bitV .xor .i64 4294967295 v.e) v.g))) + e9) + e10) % 4294967296)) % 4294967296, v.e, v.f, v.g⟩ : V8)), ⟨by omega, step_all2 hv, step_run2 hR he9 he10⟩, (by simp only; omega), Sub.o [(121, 121), (330, 228), (3500, 3500)] [true, false, false, false, false, true, false, false, false, false, true, true, true]⟩
 refine AW.exit ?_
 refine AW.r ?_
 refine At.lit0 (t := 39) (d := 231) (e := 3) (es := 1) (bytes := 8) 331 (by kernel_rfl) (by kernel_rfl) (by kernel_rfl) (by kernel_rfl) ?_
 refine At.z 1 ?_
 refine AW.seq ?_
 refine AW.q 1 ?_
 refine AW.block ?_
 refine AW.loopW (fun (x : Nat × List Int) => match x with | (i, o) => Go.Sy.mk [.sl false 1 (h.map encI), .un, .un, .un, .un, .un, .un, .un, .un, .un, .un, .ref 228, .un, .un, .un, .un, .un, .un, .un, .ref 331, .int .i64 (i : Int)] [(228, .arr 3 1 (([v.a, v.b, v.c, v.d, v.e, v.f, v.g, v.h]).map encI)), (331, .arr 3 1 (o.map encI))]) (fun (x : Nat × List Int) => match x with | (i, o) => i ≤ 8 ∧ o.length = i ∧ roundI h b = o ++ addL (h.drop i) ([v.a, v.b, v.c, v.d, v.e, v.f, v.g, v.h].drop i)) (fun (x : Nat × List Int) => match x with | (i, o) => 8 - i) (0, []) ⟨by omega, rfl, by rw [List.drop_zero, List.drop_zero]; exact round_of (by rw [← hls, hR, List.drop_of_length_le (l := keysI) (by rw [keysI_len]; omega)]; rfl)⟩ (Sub.o [(228, 228), (331, 331)] [true, false, false, false, false, false, false, false, false, false, false, true, false, false, false, false, false, false, false, true, true]) ?_
 rintro ⟨i, o⟩ ⟨hi, ho, hS⟩
 refine AW.seq ?_
 refine AW.q 2 ?_
 refine AW.cD ((i : Int) < 8) (fun h4 => ?_) (fun h4 => ?_)
 · refine AW.skip ?_
   refine AW.seq ?_
   refine AW.block ?_
   refine AW.gD Try_mix ?_
   refine At.a 3 ?_
   refine At.iSl 39 239 (.tmp 237) (.tmp 238) false 1 (h.map encI) .i64 (i : Int) 3 (by omega) (by simp only [List.length_map]; omega) ?_
   refine Exists.elim (gE h i (by omega)) fun e11 he11 => ?_
   have hbe11 := ha _ (List.mem_of_getElem? he11)
   unfold W32 at hbe11
   refine At.lVp 3 240 (.tmp 239) false 1 (h.map encI) i 0 false 1 (encI e11) (.int .i64 e11) (mapGet he11) ?_
   refine At.a 2 ?_
   refine At.iRf 39 243 (.tmp 241) (.tmp 242) 228 (([v.a, v.b, v.c, v.d, v.e, v.f, v.g, v.h]).map encI) .i64 (i : Int) 3 1 (by omega) (by simp only [List.length_map, List.length_append, List.length_take, List.length_drop, List.length_replicate, List.length_set, List.length_cons, List.length_nil]; omega) ?_
   refine Exists.elim (gE ([v.a, v.b, v.c, v.d, v.e, v.f, v.g, v.h]) i (by simp only [List.length_map, List.length_append, List.length_take, List.length_drop, List.length_replicate, List.length_set, List.length_cons, List.length_nil]; omega)) fun e12 he12 => ?_
   have hbe12 := all_toL hv _ (List.mem_of_getElem? he12)
   unfold W32 at hbe12
   refine At.lEl 3 244 (.tmp 243) 228 3 1 (([v.a, v.b, v.c, v.d, v.e, v.f, v.g, v.h]).map encI) i 0 false 1 (encI e12) (.int .i64 e12) (mapGet he12) ?_
   refine At.a 1 ?_
   refine At.sI 245 (e11 + e12) (by omega) ?_
   refine At.c (spec_l2Low_spec  (e11 + e12) ) Try.call57 true [] [] [] trivial ?_
   refine At.ll 247 3 1 347 (0, 6) (([(e11 + e12) % 4294967296]).map encI) ?_
   refine At.apK 248 3 1 8 348 331 347 encI o ([(e11 + e12) % 4294967296]) (by simp only [List.length_map, List.length_append, List.length_take, List.length_drop, List.length_replicate, List.length_set, List.length_cons, List.length_nil]; omega) ?_
   refine At.zD 1 ?_
   refine AW.g ?_
   refine At.a 2 ?_
   refine At.sI 235 ((i : Int) + 1) (by omega) ?_
   refine At.z 1 ?_
   exact ⟨(i + 1, (o ++ ([(e11 + e12) % 4294967296]))), ⟨by omega, by simp [ho], add_step hS he11 he12⟩, (by simp only; omega), Sub.o [(228, 228), (348, 331)] [true, false, false, false, false, false, false, false, false, false, false, true, false, false, false, false, false, false, false, true, true]⟩
 refine AW.exit ?_
 refine AW.q 2 ?_
 refine AW.ret ?_
 refine ⟨_, Sub.refl _ _, ?_⟩
 refine KF.conv (fun w => .ref 0) (fun w => [.arr 3 1 (w.map encI)]) (show (o) = (roundI h b) from add_end hS (by omega)) ?_
 exact KF.n [(331, 0)]
theorem spec_Sha_spec  (b : List UInt8) (hb : b.length ≤ 1048576) : FnSpec Try.prog 14 [.sl false 1 (b.map encU8)] [] (.ref 0) [.arr 5 1 ((shaB b).map encU8)] := by
 refine FnSpec.of 85 Try.func14 rfl Try.ntmps14 (by simp) (AW.weakK ?_)
 refine AW.q 1 ?_
 refine AW.r ?_
 refine At.lit0 (t := 32) (d := 9) (e := 5) (es := 1) (bytes := 1) 109 (by kernel_rfl) (by kernel_rfl) (by kernel_rfl) (by kernel_rfl) ?_
 refine At.z 1 ?_
 refine AW.seq ?_
 refine AW.r ?_
 refine At.a 2 ?_
 refine At.sL 11 encU8 b ?_
 refine At.z 1 ?_
 refine AW.cD ((b.length : Int) > 4000) (fun h1 => ?_) (fun h1 => ?_)
 · refine AW.q 2 ?_
   refine AW.ret ?_
   refine ⟨_, Sub.refl _ _, ?_⟩
   refine KF.conv (fun w => .ref 0) (fun w => [.arr 5 1 (w.map encU8)]) (show ([]) = (shaB b) from by exact (sha_no (by assumption)).symm) ?_
   exact KF.n [(109, 0)]
 refine AW.skip ?_
 refine AW.r ?_
 refine At.lit0 (t := 32) (d := 14) (e := 5) (es := 1) (bytes := 1) 114 (by kernel_rfl) (by kernel_rfl) (by kernel_rfl) (by kernel_rfl) ?_
 refine At.a 1 ?_
 refine At.append (t := 32) (d := 16) (e := 5) (es := 1) (bytes := 1) (s := .tmp 14) (x := .tmp 15) (S := .ref 114) (T := .sl false 1 (b.map encU8)) (xs := []) (ys := (b.map encU8)) 116 [114] [] (b.map encU8) (by kernel_rfl) (by kernel_rfl) (by kernel_rfl) (by kernel_rfl) ⟨by kernel_rfl, rfl⟩ ⟨rfl, rfl, (allP_encU8 _), rfl⟩ (by kernel_rfl) (by kernel_rfl) (by simp) (by simp only [List.length_map, List.length_append, List.length_take, List.length_drop, List.length_replicate, List.length_set, List.length_cons, List.length_nil]; omega) (by simp only [List.length_map, List.length_append, List.length_take, List.length_drop, List.length_replicate, List.length_set, List.length_cons, List.length_nil]; omega) ?_
 refine At.ll 17 5 1 117 (0, 6) (([(128 : UInt8)]).map encU8) ?_
 refine At.apK 18 5 1 1 118 116 117 encU8 b ([(128 : UInt8)]) (by simp only [List.length_map, List.length_append, List.length_take, List.length_drop, List.length_replicate, List.length_set, List.length_cons, List.length_nil]; omega) ?_
 refine At.z 1 ?_
 refine AW.seq ?_
 refine AW.block ?_
 refine AW.loopW (fun (x : Nat × List UInt8) => match x with | (k, q) => Go.Sy.mk [.sl false 1 (b.map encU8), .un, .un, .ref 109, .ref 118] [(109, .arr 5 1 []), (118, .arr 5 1 (q.map encU8))]) (fun (x : Nat × List UInt8) => match x with | (k, q) => k ≤ padZ b.length ∧ q = b ++ [128] ++ List.replicate k 0) (fun (x : Nat × List UInt8) => match x with | (k, q) => padZ b.length - k) (0, b ++ ([(128 : UInt8)])) ⟨by omega, by simp⟩ (Sub.o [(109, 109), (118, 118)] [true, false, false, true, true]) ?_
 rintro ⟨k, q⟩ ⟨hk, hq⟩
 have hql : q.length = b.length + 1 + k := by rw [hq]; simp; omega
 have hpz := pad_zero (n := b.length)
 refine AW.seq ?_
 refine AW.r ?_
 refine At.a 2 ?_
 refine At.sL 20 encU8 q ?_
 refine At.div (t := 3) (u := 3) (d := 21) (op := .rem) (x := .tmp 20) (y := .const (.int .i64 64)) (kd := .i64) (a := (q.length : Int)) (b := 64) (by kernel_rfl) (by kernel_rfl) (by kernel_rfl) (by kernel_rfl) (by omega) (.int .i64 ((q.length : Int).tmod 64)) (.inr ⟨rfl, rfl⟩) ?_
 refine At.say 21 (.int .i64 ((q.length : Int).tmod 64)) (.int .i64 ((q.length : Int) % 64)) (by kernel_rfl) (sayRem (by omega)) ?_
 refine At.z 1 ?_
 refine AW.cU ((q.length : Int) % 64) (56 : Int) (fun h2 => ?_) (fun h2 => ?_)
 · refine AW.skip ?_
   refine AW.block ?_
   refine AW.g ?_
   refine At.a 1 ?_
   refine At.ll 24 5 1 124 (0, 6) (([(0 : UInt8)]).map encU8) ?_
   refine At.apK 25 5 1 1 125 118 124 encU8 q ([(0 : UInt8)]) (by simp only [List.length_map, List.length_append, List.length_take, List.length_drop, List.length_replicate, List.length_set, List.length_cons, List.length_nil]; omega) ?_
   refine At.z 1 ?_
   exact ⟨(k + 1, (q ++ ([(0 : UInt8)]))), ⟨by have := pad_less hk (by omega); omega, pad_app hq⟩, (by have := pad_less hk (by omega); simp only; omega), Sub.o [(109, 109), (125, 118)] [true, false, false, true, true]⟩
 refine AW.exit ?_
 refine AW.seq ?_
 refine AW.q 1 ?_
 refine AW.block ?_
 have hkz := pad_end hk (by omega)
 refine AW.loopW (fun (x : Int × List UInt8) => match x with | (i, p) => Go.Sy.mk [.sl false 1 (b.map encU8), .un, .un, .ref 109, .ref 118, .int .i64 i] [(109, .arr 5 1 []), (118, .arr 5 1 (p.map encU8))]) (fun (x : Int × List UInt8) => match x with | (i, p) => -1 ≤ i ∧ i ≤ 7 ∧ p = q ++ (lenB b.length).take (7 - i).toNat) (fun (x : Int × List UInt8) => match x with | (i, p) => (i + 1).toNat) (7, q) ⟨by omega, by omega, by simp⟩ (Sub.o [(109, 109), (118, 118)] [true, false, false, true, true, true]) ?_
 rintro ⟨i, p⟩ ⟨hi0, hi1, hp⟩
 have hpl : p.length = q.length + (7 - i).toNat := by rw [hp, List.length_append, List.length_take, lenB_len]; omega
 refine AW.seq ?_
 refine AW.q 2 ?_
 refine AW.cD (i ≥ 0) (fun h3 => ?_) (fun h3 => ?_)
 · refine AW.skip ?_
   refine AW.seq ?_
   refine AW.block ?_
   refine AW.g ?_
   refine At.a 3 ?_
   refine At.sL 32 encU8 b ?_
   refine At.a 1 ?_
   refine At.sI 33 (8 * (b.length : Int)) (by omega) ?_
   refine At.a 2 ?_
   refine At.sI 35 (8 * i) (by omega) ?_
   refine At.shift (t := 3) (u := 3) (d := 36) (op := .shr) (x := .tmp 33) (y := .tmp 35) (kd := .i64) (kd' := .i64) (a := 8 * (b.length : Int)) (b := 8 * i) (shV .shr .i64 (8 * (b.length : Int)) (8 * i)) (by kernel_rfl) (by kernel_rfl) (by kernel_rfl) (by kernel_rfl) (by omega) (shS_shr _ _ _) ?_
   refine At.conv (s := 3) (t := 5) (d := 37) (x := .tmp 36) (kd := .i64) (kd' := .u8) (a := shV .shr .i64 (8 * (b.length : Int)) (8 * i)) (.int .u8 ((u8Of (shV .shr .i64 (8 * (b.length : Int)) (8 * i))).toNat : Int)) (by kernel_rfl) (by kernel_rfl) (by kernel_rfl) (by kernel_rfl) (sayByte _) ?_
   refine At.ll 38 5 1 138 (0, 6) (([(u8Of (shV .shr .i64 (8 * (b.length : Int)) (8 * i)))]).map encU8) ?_
   refine At.apK 39 5 1 1 139 118 138 encU8 p ([(u8Of (shV .shr .i64 (8 * (b.length : Int)) (8 * i)))]) (by simp only [List.length_map, List.length_append, List.length_take, List.length_drop, List.length_replicate, List.length_set, List.length_cons, List.length_nil]; omega) ?_
   refine At.z 1 ?_
   refine AW.g ?_
   refine At.a 2 ?_
   refine At.sI 29 (i - 1) (by omega) ?_
   refine At.z 1 ?_
   exact ⟨((i - 1), (p ++ ([(u8Of (shV .shr .i64 (8 * (b.length : Int)) (8 * i)))]))), ⟨by omega, by omega, lenB_int (by omega) hi1 hp⟩, (by simp only; omega), Sub.o [(109, 109), (139, 118)] [true, false, false, true, true, true]⟩
 refine AW.exit ?_
 refine AW.r ?_
 refine At.ll 40 3 1 140 (0, 6) (([1779033703, 3144134277, 1013904242, 2773480762, 1359893119, 2600822924, 528734635, 1541459225]).map encI) ?_
 refine At.z 1 ?_
 refine AW.seq ?_
 refine AW.q 1 ?_
 refine AW.block ?_
 have hpd := pad_done hq hkz hp (by omega) hi0
 have hpm : p.length % 64 = 0 := by rw [hpd]; exact (padI_len b).1
 refine AW.loopW (fun (x : Int × List Int) => match x with | (i, h) => Go.Sy.mk [.un, .un, .un, .ref 109, .ref 118, .un, .ref 140, .int .i64 i] [(109, .arr 5 1 []), (118, .arr 5 1 (p.map encU8)), (140, .arr 3 1 (h.map encI))]) (fun (x : Int × List Int) => match x with | (i, h) => 0 ≤ i ∧ i ≤ p.length ∧ i % 64 = 0 ∧ h.length = 8 ∧ AllW h ∧ blocksI ((padI b).length / 64) firstI (padI b) = blocksI ((p.drop i.toNat).length / 64) h (p.drop i.toNat)) (fun (x : Int × List Int) => match x with | (i, h) => ((p.length : Int) - i).toNat) (0, firstI) ⟨by omega, by omega, by omega, rfl, firstI_all, by rw [hpd]; rfl⟩ (Sub.o [(109, 109), (118, 118), (140, 140)] [false, false, false, true, true, false, true, true]) ?_
 rintro ⟨i, h⟩ ⟨hi0, hi1, hi2, hh, ha, hR⟩
 refine AW.seq ?_
 refine AW.r ?_
 refine At.a 3 ?_
 refine At.sL 43 encU8 p ?_
 refine At.z 1 ?_
 refine AW.cD (i < (p.length : Int)) (fun h4 => ?_) (fun h4 => ?_)
 · refine AW.skip ?_
   refine AW.seq ?_
   refine AW.block ?_
   refine AW.g ?_
   refine At.a 5 ?_
   refine At.sI 51 (i + 64) (by omega) ?_
   refine At.sliceRef (t := 32) (d := 52) (e := 5) (es := 1) (i := 118) (x := .tmp 48) (lx := some (.tmp 49)) (hx := some (.tmp 51)) (xs := (p.map encU8)) (vl := .int .i64 i) (vh := .int .i64 (i + 64)) ((i).toNat) ((i + 64).toNat) (by kernel_rfl) (by kernel_rfl) (by kernel_rfl) (by kernel_rfl) (by kernel_rfl) (.inr ⟨_, _, rfl, sayNat (by omega)⟩) (.inr ⟨_, _, rfl, sayNat (by omega)⟩) (by omega) (by simp only [List.length_map]; omega) ?_
   refine At.call (spec_l2Block_spec  h ((p.drop ((i).toNat)).take (((i + 64).toNat) - ((i).toNat))) hh ha (by rw [List.length_take, List.length_drop]; omega)) Try.call34 false [] [(2060, 0)] [(140, 1, (h.map encI)), (118, 1, (p.map encU8))] (by kernel_rfl) (by kernel_rfl) (Eq.trans (b := [.sl false 1 (h.map encI), .sl false 1 (((p.map encU8).drop ((i).toNat)).take (((i + 64).toNat) - ((i).toNat)))]) (by kernel_rfl) (by simp only [List.map_take, List.map_drop])) (by kernel_rfl) (by kernel_rfl) ⟨rfl, ⟨3, (h.map encI), by kernel_rfl, FrzIs.same (allP_encI _)⟩, rfl, ⟨5, (p.map encU8), by kernel_rfl, FrzIs.same (allP_encU8 _)⟩, trivial⟩ ?_
   refine At.z 1 ?_
   refine AW.g ?_
   refine At.a 2 ?_
   refine At.sI 46 (i + 64) (by omega) ?_
   refine At.z 1 ?_
   exact ⟨((i + 64), (roundI h ((p.drop ((i).toNat)).take (((i + 64).toNat) - ((i).toNat))))), ⟨by omega, by omega, by omega, round_len _ _ hh, round_all _ _, blk_int hR hi0 hpm hi2 (by omega)⟩, (by simp only; omega), Sub.o [(109, 109), (118, 118), (2060, 140)] [false, false, false, true, true, false, true, true]⟩
 refine AW.exit ?_
 refine AW.seq ?_
 refine AW.q 1 ?_
 refine AW.block ?_
 refine AW.loopW (fun (x : Nat × List UInt8) => match x with | (k, o) => Go.Sy.mk [.un, .un, .un, .ref 109, .un, .un, .ref 140, .un, .int .i64 (k : Int)] [(109, .arr 5 1 (o.map encU8)), (140, .arr 3 1 (h.map encI))]) (fun (x : Nat × List UInt8) => match x with | (k, o) => k ≤ 8 ∧ o.length ≤ 4 * k ∧ outB h = o ++ outB (h.drop k)) (fun (x : Nat × List UInt8) => match x with | (k, o) => 8 - k) (0, []) ⟨by omega, by simp, rfl⟩ (Sub.o [(109, 109), (140, 140)] [false, false, false, true, false, false, true, false, true]) ?_
 rintro ⟨k, o⟩ ⟨hk2, ho, hS⟩
 refine AW.seq ?_
 refine AW.q 2 ?_
 refine AW.cD ((k : Int) < 8) (fun h5 => ?_) (fun h5 => ?_)
 · refine AW.skip ?_
   refine AW.seq ?_
   refine AW.block ?_
   refine AW.gD Try_mix ?_
   refine At.a 3 ?_
   refine At.iRf 39 61 (.tmp 59) (.tmp 60) 140 (h.map encI) .i64 (k : Int) 3 1 (by omega) (by simp only [List.length_map]; omega) ?_
   refine Exists.elim (gE h k (by omega)) fun e1 he1 => ?_
   refine At.lEl 3 62 (.tmp 61) 140 3 1 (h.map encI) k 0 false 1 (encI e1) (.int .i64 e1) (mapGet he1) ?_
   refine At.shift (t := 3) (u := 63) (d := 63) (op := .shr) (x := .tmp 62) (y := .const (.int .u64 24)) (kd := .i64) (kd' := .u64) (a := e1) (b := 24) (shV .shr .i64 e1 24) (by kernel_rfl) (by kernel_rfl) (by kernel_rfl) (by kernel_rfl) (by omega) (shS_shr _ _ _) ?_
   refine At.conv (s := 3) (t := 5) (d := 64) (x := .tmp 63) (kd := .i64) (kd' := .u8) (a := shV .shr .i64 e1 24) (.int .u8 ((u8Of (shV .shr .i64 e1 24)).toNat : Int)) (by kernel_rfl) (by kernel_rfl) (by kernel_rfl) (by kernel_rfl) (sayByte _) ?_
   refine At.a 2 ?_
   refine At.iRf 39 67 (.tmp 65) (.tmp 66) 140 (h.map encI) .i64 (k : Int) 3 1 (by omega) (by simp only [List.length_map]; omega) ?_
   refine At.lEl 3 68 (.tmp 67) 140 3 1 (h.map encI) k 0 false 1 (encI e1) (.int .i64 e1) (mapGet he1) ?_
   refine At.shift (t := 3) (u := 63) (d := 69) (op := .shr) (x := .tmp 68) (y := .const (.int .u64 16)) (kd := .i64) (kd' := .u64) (a := e1) (b := 16) (shV .shr .i64 e1 16) (by kernel_rfl) (by kernel_rfl) (by kernel_rfl) (by kernel_rfl) (by omega) (shS_shr _ _ _) ?_
   refine At.conv (s := 3) (t := 5) (d := 70) (x := .tmp 69) (kd := .i64) (kd' := .u8) (a := shV .shr .i64 e1 16) (.int .u8 ((u8Of (shV .shr .i64 e1 16)).toNat : Int)) (by kernel_rfl) (by kernel_rfl) (by kernel_rfl) (by kernel_rfl) (sayByte _) ?_
   refine At.a 2 ?_
   refine At.iRf 39 73 (.tmp 71) (.tmp 72) 140 (h.map encI) .i64 (k : Int) 3 1 (by omega) (by simp only [List.length_map]; omega) ?_
   refine At.lEl 3 74 (.tmp 73) 140 3 1 (h.map encI) k 0 false 1 (encI e1) (.int .i64 e1) (mapGet he1) ?_
   refine At.shift (t := 3) (u := 63) (d := 75) (op := .shr) (x := .tmp 74) (y := .const (.int .u64 8)) (kd := .i64) (kd' := .u64) (a := e1) (b := 8) (shV .shr .i64 e1 8) (by kernel_rfl) (by kernel_rfl) (by kernel_rfl) (by kernel_rfl) (by omega) (shS_shr _ _ _) ?_
   refine At.conv (s := 3) (t := 5) (d := 76) (x := .tmp 75) (kd := .i64) (kd' := .u8) (a := shV .shr .i64 e1 8) (.int .u8 ((u8Of (shV .shr .i64 e1 8)).toNat : Int)) (by kernel_rfl) (by kernel_rfl) (by kernel_rfl) (by kernel_rfl) (sayByte _) ?_
   refine At.a 2 ?_
   refine At.iRf 39 79 (.tmp 77) (.tmp 78) 140 (h.map encI) .i64 (k : Int) 3 1 (by omega) (by simp only [List.length_map]; omega) ?_
   refine At.lEl 3 80 (.tmp 79) 140 3 1 (h.map encI) k 0 false 1 (encI e1) (.int .i64 e1) (mapGet he1) ?_
   refine At.conv (s := 3) (t := 5) (d := 81) (x := .tmp 80) (kd := .i64) (kd' := .u8) (a := e1) (.int .u8 ((u8Of e1).toNat : Int)) (by kernel_rfl) (by kernel_rfl) (by kernel_rfl) (by kernel_rfl) (sayByte _) ?_
   refine At.ll 82 5 1 182 (0, 6) (([(u8Of (shV .shr .i64 e1 24)), (u8Of (shV .shr .i64 e1 16)), (u8Of (shV .shr .i64 e1 8)), (u8Of e1)]).map encU8) ?_
   refine At.apK 83 5 1 1 183 109 182 encU8 o ([(u8Of (shV .shr .i64 e1 24)), (u8Of (shV .shr .i64 e1 16)), (u8Of (shV .shr .i64 e1 8)), (u8Of e1)]) (by simp only [List.length_map, List.length_append, List.length_take, List.length_drop, List.length_replicate, List.length_set, List.length_cons, List.length_nil]; omega) ?_
   refine At.zD 1 ?_
   refine AW.g ?_
   refine At.a 2 ?_
   refine At.sI 57 ((k : Int) + 1) (by omega) ?_
   refine At.z 1 ?_
   exact ⟨(k + 1, (o ++ ([(u8Of (shV .shr .i64 e1 24)), (u8Of (shV .shr .i64 e1 16)), (u8Of (shV .shr .i64 e1 8)), (u8Of e1)]))), ⟨by omega, by simp only [List.length_append, List.length_cons, List.length_nil]; omega, out_step hS he1⟩, (by simp only; omega), Sub.o [(183, 109), (140, 140)] [false, false, false, true, false, false, true, false, true]⟩
 refine AW.exit ?_
 refine AW.q 2 ?_
 refine AW.ret ?_
 refine ⟨_, Sub.refl _ _, ?_⟩
 refine KF.conv (fun w => .ref 0) (fun w => [.arr 5 1 (w.map encU8)]) (show (o) = (shaB b) from by rw [sha_of (by assumption), blk_same hR (by omega)]; exact out_end hS (by omega)) ?_
 exact KF.n [(109, 0)]
def K_spec_ParcelWhole (rs : List ResultVar) (p : Prc) (w0_ : ByteArray) (w1_ : Int) : Exit → Sg → Prop := KF Try.prog 0 rs (.tup [.str w0_, .int .i64 w1_]) []
theorem spec_ParcelWhole_spec  (p : Prc) (hp : SmallP p) : FnSpec Try.prog 6 [.agg [.int .i64 p.size, .str p.digest, .sl false 1 (p.parts.map encS)]] [] (.tup [.str ((wholeP p).1), .int .i64 ((wholeP p).2)]) [] := by
 obtain ⟨p1, p2, p3⟩ := id hp
 refine FnSpec.of 37 Try.func6 rfl Try.ntmps6 (by simp) (AW.weakK ?_)
 refine AW.q 3 ?_
 refine AW.seq ?_
 refine AW.r ?_
 refine At.a 1 ?_
 refine At.c (spec_ParcelOk_spec  p hp) Try.call22 true [] [] [] trivial ?_
 refine At.z 1 ?_
 refine AW.cNB (prcOk p) (fun h1 => ?_) (fun h1 => ?_)
 · refine AW.q 2 ?_
   exact AW.ret (rf (k2 (K_spec_ParcelWhole _ p) (show ((⟨#[]⟩ : ByteArray)) = ((wholeP p).1) from by rw [whole_1 (by assumption)]) (show (1) = ((wholeP p).2) from by rw [whole_1 (by assumption)]) (KF.n [])))
 have hpc := prc_cat h1
 have hpm := prc_nums h1
 refine AW.skip ?_
 refine AW.q 1 ?_
 refine AW.seq ?_
 refine AW.q 1 ?_
 refine AW.block ?_
 refine AW.loopW (fun (x : Nat × ByteArray) => match x with | (k, o) => Go.Sy.mk [.un, .ptr 101 0 0, .un, .un, .str o, .int .i64 (k : Int)] [(101, .box 28 [.int .i64 p.size, .str p.digest, .sl false 1 (p.parts.map encS)])]) (fun (x : Nat × ByteArray) => match x with | (k, o) => k ≤ p.parts.length ∧ o.size ≤ 1048576 ∧ catS p.parts = o.data.toList ++ catS (p.parts.drop k) ∧ ∀ (i : Nat) x, i < k → p.parts[i]? = some x → ¬ x.size = 0) (fun (x : Nat × ByteArray) => match x with | (k, o) => p.parts.length - k) (0, ⟨#[]⟩) ⟨by omega, by decide, by rw [List.drop_zero]; rfl, by omega⟩ (Sub.o [(101, 101)] [false, true, false, false, true, true]) ?_
 rintro ⟨k, o⟩ ⟨hk, hos, hR, hN⟩
 refine AW.seq ?_
 refine AW.r ?_
 refine At.a 4 ?_
 refine At.sL 12 encS p.parts ?_
 refine At.z 1 ?_
 refine AW.cD ((k : Int) < (p.parts.length : Int)) (fun h2 => ?_) (fun h2 => ?_)
 · refine AW.skip ?_
   refine AW.seq ?_
   refine AW.block ?_
   refine AW.seq ?_
   refine AW.r ?_
   refine At.a 3 ?_
   refine At.iSl 22 19 (.tmp 17) (.tmp 18) false 1 (p.parts.map encS) .i64 (k : Int) 9 (by omega) (by simp only [List.length_map]; omega) ?_
   refine Exists.elim (gE p.parts k (by omega)) fun e1 he1 => ?_
   refine At.lVp 9 20 (.tmp 19) false 1 (p.parts.map encS) k 0 false 1 (encS e1) (.str e1) (mapGet he1) ?_
   refine At.z 1 ?_
   refine AW.cE (e1.toList) ((⟨#[]⟩ : ByteArray).toList) (fun h3 => ?_) (fun h3 => ?_)
   · refine AW.q 2 ?_
     exact AW.ret (rf (k2 (K_spec_ParcelWhole _ p) (show ((⟨#[]⟩ : ByteArray)) = ((wholeP p).1) from by rw [whole_2 (by assumption) (lack_all.2 ⟨e1, List.mem_of_getElem? he1, emp_iff.1 (by assumption)⟩)]) (show (2) = ((wholeP p).2) from by rw [whole_2 (by assumption) (lack_all.2 ⟨e1, List.mem_of_getElem? he1, emp_iff.1 (by assumption)⟩)]) (KF.n [])))
   refine AW.skip ?_
   refine AW.g ?_
   refine At.a 4 ?_
   refine At.iSl 22 26 (.tmp 24) (.tmp 25) false 1 (p.parts.map encS) .i64 (k : Int) 9 (by omega) (by simp only [List.length_map]; omega) ?_
   refine At.lVp 9 27 (.tmp 26) false 1 (p.parts.map encS) k 0 false 1 (encS e1) (.str e1) (mapGet he1) ?_
   refine At.cat (t := 9) (u := 9) (d := 28) (x := .tmp 22) (y := .tmp 27) (a := o) (b := e1) (by kernel_rfl) (by kernel_rfl) (by kernel_rfl) (by kernel_rfl) (by have hq := congrArg List.length hR; rw [List.length_append, dropCons he1, catS, List.length_append] at hq; simp only [Array.length_toList] at hq; have e1_ : o.data.size = o.size := rfl; have e2_ : e1.data.size = e1.size := rfl; omega) ?_
   refine At.z 1 ?_
   refine AW.g ?_
   refine At.a 2 ?_
   refine At.sI 15 ((k : Int) + 1) (by omega) ?_
   refine At.z 1 ?_
   exact ⟨(k + 1, (o ++ e1)), ⟨by omega, by have hq := congrArg List.length hR; rw [List.length_append, dropCons he1, catS, List.length_append] at hq; simp only [Array.length_toList] at hq; have e1_ : o.data.size = o.size := rfl; have e2_ : e1.data.size = e1.size := rfl; rw [cat_size]; omega, cat_step hR he1, none_step hN he1 (by rw [← emp_iff]; assumption)⟩, (by simp only; omega), Sub.o [(101, 101)] [false, true, false, false, true, true]⟩
 refine AW.exit ?_
 refine AW.seq ?_
 refine AW.seq ?_
 refine AW.gD Try_mix ?_
 refine At.a 1 ?_
 refine At.s2b (s := 9) (t := 32) (e := 5) (d := 30) (x := .tmp 29) (b := o) ((o.data.toList.map encU8)) (by kernel_rfl) (by kernel_rfl) (by kernel_rfl) (by kernel_rfl) (by omega) rfl ?_
 refine At.c (FnSpec.cv (As := [.sl true 1 (o.data.toList.map encU8)]) [2] (spec_Sha_spec  o.data.toList (by rw [Array.length_toList]; exact hos))) Try.call14 true [] [(1620, 0)] [] trivial ?_
 refine At.b2s (s := 32) (t := 9) (e := 5) (d := 32) (x := .tmp 31) (T := .ref 1620) (shaB o.data.toList) [] (by kernel_rfl) (by kernel_rfl) (by kernel_rfl) (by kernel_rfl) ⟨by kernel_rfl, .inl ⟨rfl, (allP_encU8 _)⟩⟩ ?_
 refine At.zD 3 ?_
 refine AW.cNE ((strOf (shaB o.data.toList)).toList) (p.digest.toList) (fun h4 => ?_) (fun h4 => ?_)
 · refine AW.q 2 ?_
   exact AW.ret (rf (k2 (K_spec_ParcelWhole _ p) (show ((⟨#[]⟩ : ByteArray)) = ((wholeP p).1) from by rw [whole_3 (by assumption) (lack_none (none_all hN (by omega))) (by rw [cat_all hR (by omega)]; assumption)]) (show (3) = ((wholeP p).2) from by rw [whole_3 (by assumption) (lack_none (none_all hN (by omega))) (by rw [cat_all hR (by omega)]; assumption)]) (KF.n [])))
 refine AW.skip ?_
 refine AW.q 3 ?_
 exact AW.ret (rf (k2 (K_spec_ParcelWhole _ p) (show (o) = ((wholeP p).1) from by rw [whole_0 (by assumption) (lack_none (none_all hN (by omega))) (by rw [cat_all hR (by omega)]; assumption)]; exact cat_end hR (by omega)) (show (0) = ((wholeP p).2) from by rw [whole_0 (by assumption) (lack_none (none_all hN (by omega))) (by rw [cat_all hR (by omega)]; assumption)]) (KF.n [])))
theorem strings_Join_spec  (a : List ByteArray) (sep : ByteArray) (hs : sep = ⟨#[]⟩) (hl : a.length ≤ 1048576) (hc : (catS a).length ≤ 1048576) : FnSpec Try.prog 24 [.sl false 1 (a.map encS), .str sep] [] (.str (strOf (catS a))) [] := by
 subst hs
 exact join_spec a hl hc (fun A c w => Try.strings_Join_none A c _ w) (fun bk o c w h1 h2 h3 => (Try.strings_Join bk o c a ⟨#[]⟩ w h1 h2 (by omega) h3 (by rw [joinLib]; omega)).mono fun e w' h => ⟨h.1.trans (by rw [joinLib]; rfl), h.2⟩)
theorem impl_within_spec  (n : Int) (low : Int) (high : Int) : FnSpec Try.prog 37 [.int .i64 n, .int .i64 low, .int .i64 high] [] (.bool (inR n low high)) [] := by
 refine FnSpec.of 15 Try.func37 rfl Try.ntmps37 (by simp) (AW.weakK ?_)
 refine AW.q 1 ?_
 refine AW.r ?_
 refine At.a 4 ?_
 by_cases h1 : n ≥ low
 · refine At.sB 10 _ _ (sayT h1) ?_
   refine At.z 5 ?_
   refine AW.ret ?_
   refine ⟨_, Sub.refl _ _, ?_⟩
   refine KF.conv (fun w => .bool w) (fun w => []) (show (decide (n ≤ high)) = (inR n low high) from by simp [inR, *]) ?_
   exact KF.n []
 refine At.sB 10 _ _ (sayF h1) ?_
 refine At.z 5 ?_
 refine AW.ret ?_
 refine ⟨_, Sub.refl _ _, ?_⟩
 refine KF.conv (fun w => .bool w) (fun w => []) (show (false) = (inR n low high) from by simp [inR, *]) ?_
 exact KF.n []
theorem impl_isSize_spec  (n : Int) : FnSpec Try.prog 35 [.int .i64 n] [] (.bool (inR n 0 1000)) [] := by
 refine FnSpec.of 5 Try.func35 rfl Try.ntmps35 (by simp) (AW.weakK ?_)
 refine AW.q 1 ?_
 refine AW.r ?_
 refine At.a 1 ?_
 refine At.c (impl_within_spec  n 0 1000 ) Try.call37 true [] [] [] trivial ?_
 refine At.z 1 ?_
 exact AW.ret (rf (KF.n []))
theorem impl_PartsOf_spec  (n : Int) : FnSpec Try.prog 15 [.int .i64 n] [] (.int .i64 (partsN n)) [] := by
 refine FnSpec.of 10 Try.func15 rfl Try.ntmps15 (by simp) (AW.weakK ?_)
 refine AW.q 1 ?_
 refine AW.seq ?_
 refine AW.r ?_
 refine At.a 1 ?_
 refine At.c (impl_isSize_spec  n ) Try.call35 true [] [] [] trivial ?_
 refine At.z 1 ?_
 refine AW.cNB (inR n 0 1000) (fun h1 => ?_) (fun h1 => ?_)
 · refine AW.q 1 ?_
   refine AW.ret ?_
   refine ⟨_, Sub.refl _ _, ?_⟩
   refine KF.conv (fun w => .int .i64 w) (fun w => []) (show (-1) = (partsN n) from by rw [partsN_no (by assumption)]) ?_
   exact KF.n []
 have h1i := inR_iff.1 h1
 have hni := inR_iff.1 h1
 refine AW.skip ?_
 refine AW.r ?_
 refine At.a 2 ?_
 refine At.sI 7 (n + 16) (by omega) ?_
 refine At.a 1 ?_
 refine At.sJ 8 ((n + 16) - 1) (n + 15) (by omega) (by omega) ?_
 refine At.div (t := 3) (u := 3) (d := 9) (op := .quo) (x := .tmp 8) (y := .const (.int .i64 16)) (kd := .i64) (a := n + 15) (b := 16) (by kernel_rfl) (by kernel_rfl) (by kernel_rfl) (by kernel_rfl) (by omega) (.int .i64 (IntKind.i64.wrap ((n + 15).tdiv 16))) (.inl ⟨rfl, rfl⟩) ?_
 refine At.say 9 (.int .i64 (IntKind.i64.wrap ((n + 15).tdiv 16))) (.int .i64 ((n + 15) / 16)) (by kernel_rfl) (sayQuo (by omega) (by omega) (by omega)) ?_
 refine At.z 1 ?_
 refine AW.ret ?_
 refine ⟨_, Sub.refl _ _, ?_⟩
 refine KF.conv (fun w => .int .i64 w) (fun w => []) (show ((n + 15) / 16) = (partsN n) from by rw [(partsN_of (by assumption)).2.2]) ?_
 exact KF.n []
theorem impl_partLong_spec  (n : Int) (i : Int) (hn : 0 ≤ n ∧ n ≤ 1000) (hi : 0 ≤ i ∧ i ≤ 1000) : FnSpec Try.prog 38 [.int .i64 n, .int .i64 i] [] (.int .i64 (longI n i)) [] := by
 refine FnSpec.of 10 Try.func38 rfl Try.ntmps38 (by simp) (AW.weakK ?_)
 refine AW.q 1 ?_
 refine AW.r ?_
 refine At.a 3 ?_
 refine At.sI 7 (i * 16) (by omega) ?_
 refine At.a 1 ?_
 refine At.sI 8 (n - (i * 16)) (by omega) ?_
 refine At.mm (d := 9) (b := .min) (x := .const (.int .i64 16)) (y := .tmp 8) (ats := #[3, 3]) (q := .i64) (m := 16) (n := n - (i * 16)) (if (n - (i * 16)) < 16 then n - (i * 16) else 16) (by kernel_rfl) (by kernel_rfl) (by kernel_rfl) (by kernel_rfl) (.inl ⟨rfl, rfl⟩) ?_
 refine At.say 9 (.int .i64 (if (n - (i * 16)) < 16 then n - (i * 16) else 16)) (.int .i64 (min 16 (n - (i * 16)))) (by kernel_rfl) (congrArg (V.int .i64) (by omega)) ?_
 refine At.z 1 ?_
 refine AW.ret ?_
 refine ⟨_, Sub.refl _ _, ?_⟩
 refine KF.conv (fun w => .int .i64 w) (fun w => []) (show (min 16 (n - (i * 16))) = (longI n i) from by rfl) ?_
 exact KF.n []
theorem impl_ParcelOk_spec  (p : Prc) (hp : SmallP p) : FnSpec Try.prog 25 [.agg [.int .i64 p.size, .str p.digest, .sl false 1 (p.parts.map encS)]] [] (.bool (prcOk p)) [] := by
 obtain ⟨p1, p2, p3⟩ := id hp
 refine FnSpec.of 44 Try.func25 rfl Try.ntmps25 (by simp) (AW.weakK ?_)
 refine AW.q 2 ?_
 refine AW.seq ?_
 refine AW.seq ?_
 refine AW.gD Try_mix ?_
 refine At.a 2 ?_
 refine At.c (impl_isSize_spec  p.size ) Try.call35 true [] [] [] trivial ?_
 refine At.a 2 ?_
 by_cases h1 : (inR p.size 0 1000) = true
 · refine At.sB 9 (!(inR p.size 0 1000)) false (sayNF (sayB h1)) ?_
   have h1i := inR_iff.1 h1
   have hni := inR_iff.1 h1
   have hpo := partsN_of h1
   refine At.a 6 ?_
   by_cases h2 : (p.digest.size : Int) = 32
   · refine At.sB 15 _ _ (sayUF h2) ?_
     refine At.a 3 ?_
     refine At.sL 18 encS p.parts ?_
     refine At.a 2 ?_
     refine At.c (impl_PartsOf_spec  p.size ) Try.call15 true [] [] [] trivial ?_
     refine At.zD 2 ?_
     refine AW.cU (p.parts.length : Int) (partsN p.size) (fun h3 => ?_) (fun h3 => ?_)
     · refine AW.q 1 ?_
       refine AW.ret ?_
       refine ⟨_, Sub.refl _ _, ?_⟩
       refine KF.conv (fun w => .bool w) (fun w => []) (show (false) = (prcOk p) from by exact (prcOk_no (by simp_all)).symm) ?_
       exact KF.n []
     refine AW.skip ?_
     refine AW.seq ?_
     refine AW.r ?_
     refine At.a 3 ?_
     refine At.sL 26 encS p.parts ?_
     refine At.z 1 ?_
     refine AW.block ?_
     refine AW.loopW (fun (k : Nat) => Go.Sy.mk [.un, .ptr 101 0 0, .un, .un, .un, .un, .un, .un, .un, .un, .un, .un, .un, .un, .un, .un, .un, .un, .un, .un, .un, .un, .un, .un, .un, .sl false 1 (p.parts.map encS), .int .i64 (p.parts.length : Int), .int .i64 (k : Int)] [(101, .box 28 [.int .i64 p.size, .str p.digest, .sl false 1 (p.parts.map encS)])]) (fun (k : Nat) => k ≤ p.parts.length ∧ okGo p.size 0 p.parts = okGo p.size k (p.parts.drop k)) (fun (k : Nat) => p.parts.length - k) 0 ⟨by omega, by rw [List.drop_zero]⟩ (Sub.o [(101, 101)] [false, true, false, false, false, false, false, false, false, false, false, false, false, false, false, false, false, false, false, false, false, false, false, false, false, true, true, true]) ?_
     rintro k ⟨hk, hR⟩
     refine AW.q 1 ?_
     refine AW.seq ?_
     refine AW.cD ((k : Int) < (p.parts.length : Int)) (fun h4 => ?_) (fun h4 => ?_)
     · refine AW.skip ?_
       refine AW.seq ?_
       refine AW.block ?_
       refine AW.r ?_
       refine At.a 1 ?_
       refine At.iSl 22 30 (.tmp 25) (.tmp 27) false 1 (p.parts.map encS) .i64 (k : Int) 9 (by omega) (by simp only [List.length_map]; omega) ?_
       refine Exists.elim (gE p.parts k (by omega)) fun e1 he1 => ?_
       refine At.lVp 9 31 (.tmp 30) false 1 (p.parts.map encS) k 0 false 1 (encS e1) (.str e1) (mapGet he1) ?_
       refine At.z 2 ?_
       refine AW.r ?_
       refine At.a 3 ?_
       by_cases h5 : e1.toList = (⟨#[]⟩ : ByteArray).toList
       · refine At.sB 34 (!(e1.toList == (⟨#[]⟩ : ByteArray).toList)) false (sayNF (sayET h5)) ?_
         refine At.z 8 ?_
         refine AW.cond false (by kernel_rfl) (fun h => by cases h) (fun _ => ?_)
         refine AW.skip ?_
         refine AW.g ?_
         refine At.a 1 ?_
         refine At.sI 43 ((k : Int) + 1) (by omega) ?_
         refine At.z 1 ?_
         exact ⟨k + 1, ⟨by omega, by rw [hR]; exact okGo_step he1 (by left; exact emp_iff.1 (by assumption))⟩, (by omega), Sub.o [(101, 101)] [false, true, false, false, false, false, false, false, false, false, false, false, false, false, false, false, false, false, false, false, false, false, false, false, false, true, true, true]⟩
       refine At.sB 34 (!(e1.toList == (⟨#[]⟩ : ByteArray).toList)) true (sayNT (sayEF h5)) ?_
       refine At.a 5 ?_
       refine At.c (impl_partLong_spec  p.size (k : Int) (by omega) (by omega)) Try.call38 true [] [] [] trivial ?_
       refine At.z 2 ?_
       refine AW.cU (e1.size : Int) (longI p.size (k : Int)) (fun h6 => ?_) (fun h6 => ?_)
       · refine AW.q 1 ?_
         refine AW.ret ?_
         refine ⟨_, Sub.refl _ _, ?_⟩
         refine KF.conv (fun w => .bool w) (fun w => []) (show (false) = (prcOk p) from by exact (prc_bad hR (okGo_bad he1 (by first | omega | (rw [← emp_iff]; assumption)) (by omega))).symm) ?_
         exact KF.n []
       refine AW.skip ?_
       refine AW.g ?_
       refine At.a 1 ?_
       refine At.sI 43 ((k : Int) + 1) (by omega) ?_
       refine At.z 1 ?_
       exact ⟨k + 1, ⟨by omega, by rw [hR]; exact okGo_step he1 (by right; omega)⟩, (by omega), Sub.o [(101, 101)] [false, true, false, false, false, false, false, false, false, false, false, false, false, false, false, false, false, false, false, false, false, false, false, false, false, true, true, true]⟩
     refine AW.exit ?_
     refine AW.q 1 ?_
     refine AW.ret ?_
     refine ⟨_, Sub.refl _ _, ?_⟩
     refine KF.conv (fun w => .bool w) (fun w => []) (show (true) = (prcOk p) from by exact (prc_good hR (by omega) (by assumption) (by omega) (by omega)).symm) ?_
     exact KF.n []
   refine At.sB 15 _ _ (sayUT h2) ?_
   refine At.zD 8 ?_
   refine AW.cond true (by kernel_rfl) (fun _ => ?_) (fun h => by cases h)
   refine AW.q 1 ?_
   refine AW.ret ?_
   refine ⟨_, Sub.refl _ _, ?_⟩
   refine KF.conv (fun w => .bool w) (fun w => []) (show (false) = (prcOk p) from by exact (prcOk_no (by simp_all)).symm) ?_
   exact KF.n []
 refine At.sB 9 (!(inR p.size 0 1000)) true (sayNT (sayB (Bool.eq_false_iff.2 h1))) ?_
 replace h1 := Bool.eq_false_iff.2 h1
 refine At.zD 14 ?_
 refine AW.cond true (by kernel_rfl) (fun _ => ?_) (fun h => by cases h)
 refine AW.q 1 ?_
 refine AW.ret ?_
 refine ⟨_, Sub.refl _ _, ?_⟩
 refine KF.conv (fun w => .bool w) (fun w => []) (show (false) = (prcOk p) from by exact (prcOk_no (by simp_all)).symm) ?_
 exact KF.n []
theorem impl_ParcelLacks_spec  (p : Prc) (hp : SmallP p) : FnSpec Try.prog 17 [.agg [.int .i64 p.size, .str p.digest, .sl false 1 (p.parts.map encS)]] [] (.ref 0) [.arr 3 1 ((lacksI p).map encI)] := by
 obtain ⟨p1, p2, p3⟩ := id hp
 refine FnSpec.of 27 Try.func17 rfl Try.ntmps17 (by simp) (AW.weakK ?_)
 refine AW.q 2 ?_
 refine AW.r ?_
 refine At.lit0 (t := 39) (d := 6) (e := 3) (es := 1) (bytes := 8) 106 (by kernel_rfl) (by kernel_rfl) (by kernel_rfl) (by kernel_rfl) ?_
 refine At.z 1 ?_
 refine AW.seq ?_
 refine AW.r ?_
 refine At.a 1 ?_
 refine At.c (impl_ParcelOk_spec  p hp) Try.call25 true [] [] [] trivial ?_
 refine At.z 1 ?_
 refine AW.cNB (prcOk p) (fun h1 => ?_) (fun h1 => ?_)
 · refine AW.q 2 ?_
   refine AW.ret ?_
   refine ⟨_, Sub.refl _ _, ?_⟩
   refine KF.conv (fun w => .ref 0) (fun w => [.arr 3 1 (w.map encI)]) (show ([]) = (lacksI p) from by unfold lacksI; first | (rw [if_neg (by simp [*])]; done) | (rw [if_pos (by assumption)]; exact lack_end hR (by omega))) ?_
   exact KF.n [(106, 0)]
 refine AW.skip ?_
 refine AW.seq ?_
 refine AW.r ?_
 refine At.a 3 ?_
 refine At.sL 13 encS p.parts ?_
 refine At.z 1 ?_
 refine AW.block ?_
 refine AW.loopW (fun (x : Nat × List Int) => match x with | (k, o) => Go.Sy.mk [.un, .un, .un, .ref 106, .un, .un, .un, .un, .un, .un, .un, .un, .sl false 1 (p.parts.map encS), .int .i64 (p.parts.length : Int), .int .i64 (k : Int)] [(106, .arr 3 1 (o.map encI))]) (fun (x : Nat × List Int) => match x with | (k, o) => k ≤ p.parts.length ∧ o.length ≤ k ∧ lackGo 0 p.parts = o ++ lackGo k (p.parts.drop k)) (fun (x : Nat × List Int) => match x with | (k, o) => p.parts.length - k) (0, []) ⟨by omega, by simp, by rw [List.drop_zero]; rfl⟩ (Sub.o [(106, 106)] [false, false, false, true, false, false, false, false, false, false, false, false, true, true, true]) ?_
 rintro ⟨k, o⟩ ⟨hk, ho, hR⟩
 refine AW.q 1 ?_
 refine AW.seq ?_
 refine AW.cD ((k : Int) < (p.parts.length : Int)) (fun h2 => ?_) (fun h2 => ?_)
 · refine AW.skip ?_
   refine AW.seq ?_
   refine AW.block ?_
   refine AW.r ?_
   refine At.a 1 ?_
   refine At.iSl 22 17 (.tmp 12) (.tmp 14) false 1 (p.parts.map encS) .i64 (k : Int) 9 (by omega) (by simp only [List.length_map]; omega) ?_
   refine Exists.elim (gE p.parts k (by omega)) fun e1 he1 => ?_
   refine At.lVp 9 18 (.tmp 17) false 1 (p.parts.map encS) k 0 false 1 (encS e1) (.str e1) (mapGet he1) ?_
   refine At.z 2 ?_
   refine AW.q 2 ?_
   refine AW.cE (e1.toList) ((⟨#[]⟩ : ByteArray).toList) (fun h3 => ?_) (fun h3 => ?_)
   · refine AW.g ?_
     refine At.a 2 ?_
     refine At.ll 23 3 1 123 (0, 6) (([(k : Int)]).map encI) ?_
     refine At.apK 24 3 1 8 124 106 123 encI o ([(k : Int)]) (by simp only [List.length_map, List.length_append, List.length_take, List.length_drop, List.length_replicate, List.length_set, List.length_cons, List.length_nil]; omega) ?_
     refine At.z 1 ?_
     refine AW.g ?_
     refine At.a 1 ?_
     refine At.sI 25 ((k : Int) + 1) (by omega) ?_
     refine At.z 1 ?_
     exact ⟨(k + 1, (o ++ ([(k : Int)]))), ⟨by omega, by (try simp only [List.length_append, List.length_cons, List.length_nil]); omega, by exact lack_step0 hR he1 (emp_iff.1 (by assumption))⟩, (by simp only; omega), Sub.o [(124, 106)] [false, false, false, true, false, false, false, false, false, false, false, false, true, true, true]⟩
   refine AW.skip ?_
   refine AW.g ?_
   refine At.a 1 ?_
   refine At.sI 25 ((k : Int) + 1) (by omega) ?_
   refine At.z 1 ?_
   exact ⟨(k + 1, o), ⟨by omega, by (try simp only [List.length_append, List.length_cons, List.length_nil]); omega, by exact lack_step1 hR he1 (by rw [← emp_iff]; assumption)⟩, (by simp only; omega), Sub.o [(106, 106)] [false, false, false, true, false, false, false, false, false, false, false, false, true, true, true]⟩
 refine AW.exit ?_
 refine AW.q 2 ?_
 refine AW.ret ?_
 refine ⟨_, Sub.refl _ _, ?_⟩
 refine KF.conv (fun w => .ref 0) (fun w => [.arr 3 1 (w.map encI)]) (show (o) = (lacksI p) from by unfold lacksI; first | (rw [if_neg (by simp [*])]; done) | (rw [if_pos (by assumption)]; exact lack_end hR (by omega))) ?_
 exact KF.n [(106, 0)]
theorem impl_firstWords_spec   : FnSpec Try.prog 44 [] [] (.agg (sp8 firstI)) [] := by
 refine FnSpec.of 2 Try.func44 rfl Try.ntmps44 (by simp) (AW.weakK ?_)
 refine AW.q 1 ?_
 refine AW.r ?_
 refine At.bldA (t := 77) (d := 1) (parts := #[(0, .const (.int .i64 1779033703)), (1, .const (.int .i64 3144134277)), (2, .const (.int .i64 1013904242)), (3, .const (.int .i64 2773480762)), (4, .const (.int .i64 1359893119)), (5, .const (.int .i64 2600822924)), (6, .const (.int .i64 528734635)), (7, .const (.int .i64 1541459225))]) (sp8 ([1779033703, 3144134277, 1013904242, 2773480762, 1359893119, 2600822924, 528734635, 1541459225])) (by kernel_rfl) (by kernel_rfl) (by kernel_rfl) (by kernel_rfl) ?_
 refine At.z 1 ?_
 refine AW.ret ?_
 refine ⟨_, Sub.refl _ _, ?_⟩
 refine KF.conv (fun w => .agg (sp8 w)) (fun w => []) (show ([1779033703, 3144134277, 1013904242, 2773480762, 1359893119, 2600822924, 528734635, 1541459225]) = (firstI) from rfl) ?_
 exact KF.n []
theorem impl_constants_spec   : FnSpec Try.prog 63 [] [] (.agg (sp64 keysI)) [] := by
 refine FnSpec.of 2 Try.func63 rfl Try.ntmps63 (by simp) (AW.weakK ?_)
 refine AW.q 1 ?_
 refine AW.r ?_
 refine At.bldA (t := 99) (d := 1) (parts := #[(0, .const (.int .i64 1116352408)), (1, .const (.int .i64 1899447441)), (2, .const (.int .i64 3049323471)), (3, .const (.int .i64 3921009573)), (4, .const (.int .i64 961987163)), (5, .const (.int .i64 1508970993)), (6, .const (.int .i64 2453635748)), (7, .const (.int .i64 2870763221)), (8, .const (.int .i64 3624381080)), (9, .const (.int .i64 310598401)), (10, .const (.int .i64 607225278)), (11, .const (.int .i64 1426881987)), (12, .const (.int .i64 1925078388)), (13, .const (.int .i64 2162078206)), (14, .const (.int .i64 2614888103)), (15, .const (.int .i64 3248222580)), (16, .const (.int .i64 3835390401)), (17, .const (.int .i64 4022224774)), (18, .const (.int .i64 264347078)), (19, .const (.int .i64 604807628)), (20, .const (.int .i64 770255983)), (21, .const (.int .i64 1249150122)), (22, .const (.int .i64 1555081692)), (23, .const (.int .i64 1996064986)), (24, .const (.int .i64 2554220882)), (25, .const (.int .i64 2821834349)), (26, .const (.int .i64 2952996808)), (27, .const (.int .i64 3210313671)), (28, .const (.int .i64 3336571891)), (29, .const (.int .i64 3584528711)), (30, .const (.int .i64 113926993)), (31, .const (.int .i64 338241895)), (32, .const (.int .i64 666307205)), (33, .const (.int .i64 773529912)), (34, .const (.int .i64 1294757372)), (35, .const (.int .i64 1396182291)), (36, .const (.int .i64 1695183700)), (37, .const (.int .i64 1986661051)), (38, .const (.int .i64 2177026350)), (39, .const (.int .i64 2456956037)), (40, .const (.int .i64 2730485921)), (41, .const (.int .i64 2820302411)), (42, .const (.int .i64 3259730800)), (43, .const (.int .i64 3345764771)), (44, .const (.int .i64 3516065817)), (45, .const (.int .i64 3600352804)), (46, .const (.int .i64 4094571909)), (47, .const (.int .i64 275423344)), (48, .const (.int .i64 430227734)), (49, .const (.int .i64 506948616)), (50, .const (.int .i64 659060556)), (51, .const (.int .i64 883997877)), (52, .const (.int .i64 958139571)), (53, .const (.int .i64 1322822218)), (54, .const (.int .i64 1537002063)), (55, .const (.int .i64 1747873779)), (56, .const (.int .i64 1955562222)), (57, .const (.int .i64 2024104815)), (58, .const (.int .i64 2227730452)), (59, .const (.int .i64 2361852424)), (60, .const (.int .i64 2428436474)), (61, .const (.int .i64 2756734187)), (62, .const (.int .i64 3204031479)), (63, .const (.int .i64 3329325298))]) (sp64 ([1116352408, 1899447441, 3049323471, 3921009573, 961987163, 1508970993, 2453635748, 2870763221, 3624381080, 310598401, 607225278, 1426881987, 1925078388, 2162078206, 2614888103, 3248222580, 3835390401, 4022224774, 264347078, 604807628, 770255983, 1249150122, 1555081692, 1996064986, 2554220882, 2821834349, 2952996808, 3210313671, 3336571891, 3584528711, 113926993, 338241895, 666307205, 773529912, 1294757372, 1396182291, 1695183700, 1986661051, 2177026350, 2456956037, 2730485921, 2820302411, 3259730800, 3345764771, 3516065817, 3600352804, 4094571909, 275423344, 430227734, 506948616, 659060556, 883997877, 958139571, 1322822218, 1537002063, 1747873779, 1955562222, 2024104815, 2227730452, 2361852424, 2428436474, 2756734187, 3204031479, 3329325298])) (by kernel_rfl) (by kernel_rfl) (by kernel_rfl) (by kernel_rfl) ?_
 refine At.z 1 ?_
 refine AW.ret ?_
 refine ⟨_, Sub.refl _ _, ?_⟩
 refine KF.conv (fun w => .agg (sp64 w)) (fun w => []) (show ([1116352408, 1899447441, 3049323471, 3921009573, 961987163, 1508970993, 2453635748, 2870763221, 3624381080, 310598401, 607225278, 1426881987, 1925078388, 2162078206, 2614888103, 3248222580, 3835390401, 4022224774, 264347078, 604807628, 770255983, 1249150122, 1555081692, 1996064986, 2554220882, 2821834349, 2952996808, 3210313671, 3336571891, 3584528711, 113926993, 338241895, 666307205, 773529912, 1294757372, 1396182291, 1695183700, 1986661051, 2177026350, 2456956037, 2730485921, 2820302411, 3259730800, 3345764771, 3516065817, 3600352804, 4094571909, 275423344, 430227734, 506948616, 659060556, 883997877, 958139571, 1322822218, 1537002063, 1747873779, 1955562222, 2024104815, 2227730452, 2361852424, 2428436474, 2756734187, 3204031479, 3329325298]) = (keysI) from rfl) ?_
 exact KF.n []
theorem impl_turnRight_spec  (x : Int) (n : Int) (hx : 0 ≤ x ∧ x < 4294967296) (hn : 2 ≤ n ∧ n ≤ 30) : FnSpec Try.prog 65 [.int .i64 x, .int .i64 n] [] (.int .i64 (turnI x n)) [] := by
 refine FnSpec.of 14 Try.func65 rfl Try.ntmps65 (by simp) (AW.weakK ?_)
 refine AW.q 1 ?_
 refine AW.seq ?_
 refine AW.gD Try_mix ?_
 refine At.a 2 ?_
 refine At.shift (t := 3) (u := 3) (d := 7) (op := .shr) (x := .tmp 5) (y := .tmp 6) (kd := .i64) (kd' := .i64) (a := x) (b := n) (shV .shr .i64 x n) (by kernel_rfl) (by kernel_rfl) (by kernel_rfl) (by kernel_rfl) (by omega) (shS_shr _ _ _) ?_
 refine At.a 3 ?_
 refine At.sI 10 (32 - n) (by omega) ?_
 refine At.shift (t := 3) (u := 3) (d := 11) (op := .shl) (x := .tmp 8) (y := .tmp 10) (kd := .i64) (kd' := .i64) (a := x) (b := 32 - n) (shV .shl .i64 x (32 - n)) (by kernel_rfl) (by kernel_rfl) (by kernel_rfl) (by kernel_rfl) (by omega) (shS_shl _ _ _) ?_
 refine At.bits (t := 3) (u := 3) (d := 12) (op := .or) (x := .tmp 7) (y := .tmp 11) (kd := .i64) (a := shV .shr .i64 x n) (b := shV .shl .i64 x (32 - n)) (bitV .or .i64 (shV .shr .i64 x n) (shV .shl .i64 x (32 - n))) (by kernel_rfl) (by kernel_rfl) (by kernel_rfl) (by kernel_rfl) (bitS_or _ _ _) ?_
 refine At.bits (t := 3) (u := 3) (d := 13) (op := .and) (x := .tmp 12) (y := .const (.int .i64 4294967295)) (kd := .i64) (a := bitV .or .i64 (shV .shr .i64 x n) (shV .shl .i64 x (32 - n))) (b := 4294967295) ((bitV .or .i64 (shV .shr .i64 x n) (shV .shl .i64 x (32 - n))) % 4294967296) (by kernel_rfl) (by kernel_rfl) (by kernel_rfl) (by kernel_rfl) (andM 32 4294967296 _ _ (by decide) (by decide) (by decide)) ?_
 refine At.zD 1 ?_
 refine AW.ret ?_
 refine ⟨_, Sub.refl _ _, ?_⟩
 refine KF.conv (fun w => .int .i64 w) (fun w => []) (show ((bitV .or .i64 (shV .shr .i64 x n) (shV .shl .i64 x (32 - n))) % 4294967296) = (turnI x n) from rfl) ?_
 exact KF.n []
theorem impl_expanded_spec  (block : List UInt8) (hb : block.length = 64) : FnSpec Try.prog 64 [.sl false 1 (block.map encU8)] [] (.agg (sp64 (schedI block))) [] := by
 refine FnSpec.of 84 Try.func64 rfl Try.ntmps64 (by simp) (AW.weakK ?_)
 refine AW.q 1 ?_
 refine AW.r ?_
 refine At.bldA (t := 99) (d := 12) (parts := #[]) (sp64 (List.replicate 64 (0 : Int))) (by kernel_rfl) (by kernel_rfl) (by kernel_rfl) (by kernel_rfl) ?_
 refine At.z 2 ?_
 refine AW.seq ?_
 refine AW.q 1 ?_
 refine AW.block ?_
 refine AW.loopW (fun (x : Nat × List Int) => match x with | (k, q) => Go.Sy.mk [.sl false 1 (block.map encU8), .un, .ptr 102 0 0, .ptr 103 0 0, .un, .un, .un, .un, .un, .un, .un, .un, .un, .int .i64 (k : Int)] [(102, .box 99 (sp64 (List.replicate 64 (0 : Int)))), (103, .box 99 (sp64 q))]) (fun (x : Nat × List Int) => match x with | (k, q) => k ≤ 16 ∧ q = wordsI block k ++ List.replicate (64 - k) 0 ∧ q.length = 64) (fun (x : Nat × List Int) => match x with | (k, q) => 16 - k) (0, List.replicate 64 0) ⟨by omega, by rw [words_start]; rfl, by simp⟩ (Sub.o [(102, 102), (103, 103)] [true, false, true, true, false, false, false, false, false, false, false, false, false, true]) ?_
 rintro ⟨k, q⟩ ⟨hk, hq0, hl0⟩
 refine AW.q 1 ?_
 refine AW.seq ?_
 refine AW.cD ((k : Int) < 16) (fun h1 => ?_) (fun h1 => ?_)
 · refine AW.skip ?_
   refine AW.seq ?_
   refine AW.block ?_
   refine AW.q 2 ?_
   refine AW.r ?_
   refine At.a 3 ?_
   refine At.sI 18 (4 * (k : Int)) (by omega) ?_
   refine At.a 2 ?_
   refine At.sI 20 (4 * (k : Int)) (by omega) ?_
   refine At.a 1 ?_
   refine At.sI 21 ((4 * (k : Int)) + 4) (by omega) ?_
   refine At.sliceSl (t := 32) (d := 22) (e := 5) (es := 1) (x := .tmp 16) (lx := some (.tmp 18)) (hx := some (.tmp 21)) (p := false) (xs := (block.map encU8)) (vl := .int .i64 (4 * (k : Int))) (vh := .int .i64 ((4 * (k : Int)) + 4)) ((4 * (k : Int)).toNat) (((4 * (k : Int)) + 4).toNat) (((block.drop ((4 * (k : Int)).toNat)).take ((((4 * (k : Int)) + 4).toNat) - ((4 * (k : Int)).toNat))).map encU8) (by kernel_rfl) (by kernel_rfl) (by kernel_rfl) (by kernel_rfl) (.inr ⟨_, _, rfl, sayNat (by omega)⟩) (.inr ⟨_, _, rfl, sayNat (by omega)⟩) (by omega) (by simp only [List.length_map]; omega) (by simp [List.map_take, List.map_drop]) ?_
   refine At.a 1 ?_
   refine At.sL 23 encU8 ((block.drop ((4 * (k : Int)).toNat)).take ((((4 * (k : Int)) + 4).toNat) - ((4 * (k : Int)).toNat))) ?_
   refine At.z 1 ?_
   refine AW.block ?_
   refine AW.loopW (fun (x : Nat × List Int) => match x with | (j, q) => Go.Sy.mk [.sl false 1 (block.map encU8), .un, .ptr 102 0 0, .ptr 103 0 0, .int .i64 (k : Int), .un, .un, .un, .un, .un, .un, .un, .un, .int .i64 (k : Int), .un, .un, .un, .un, .un, .un, .un, .un, .sl false 1 (((block.drop ((4 * (k : Int)).toNat)).take ((((4 * (k : Int)) + 4).toNat) - ((4 * (k : Int)).toNat))).map encU8), .int .i64 (((block.drop ((4 * (k : Int)).toNat)).take ((((4 * (k : Int)) + 4).toNat) - ((4 * (k : Int)).toNat))).length : Int), .int .i64 (j : Int)] [(102, .box 99 (sp64 (List.replicate 64 (0 : Int)))), (103, .box 99 (sp64 q))]) (fun (x : Nat × List Int) => match x with | (j, q) => j ≤ 4 ∧ q = wrdQ block k j ∧ q.length = 64) (fun (x : Nat × List Int) => match x with | (j, q) => 4 - j) (0, q) ⟨by omega, by rw [hq0, wrdQ_start (by omega)], by omega⟩ (Sub.o [(102, 102), (103, 103)] [true, false, true, true, true, false, false, false, false, false, false, false, false, true, false, false, false, false, false, false, false, false, true, true, true]) ?_
   rintro ⟨j, q⟩ ⟨hj, hq, hl⟩
   have h4l : ((block.drop (4 * (k : Int)).toNat).take ((4 * (k : Int) + 4).toNat - (4 * (k : Int)).toNat)).length = 4 := by rw [List.length_take, List.length_drop]; omega
   refine AW.q 1 ?_
   refine AW.seq ?_
   refine AW.cD ((j : Int) < (((block.drop ((4 * (k : Int)).toNat)).take ((((4 * (k : Int)) + 4).toNat) - ((4 * (k : Int)).toNat))).length : Int)) (fun h2 => ?_) (fun h2 => ?_)
   · refine AW.skip ?_
     refine AW.seq ?_
     refine AW.block ?_
     refine AW.r ?_
     refine At.iSl 32 26 (.tmp 22) (.tmp 24) false 1 (((block.drop ((4 * (k : Int)).toNat)).take ((((4 * (k : Int)) + 4).toNat) - ((4 * (k : Int)).toNat))).map encU8) .i64 (j : Int) 5 (by omega) (by simp only [List.length_map]; omega) ?_
     refine Exists.elim (gE ((block.drop ((4 * (k : Int)).toNat)).take ((((4 * (k : Int)) + 4).toNat) - ((4 * (k : Int)).toNat))) j (by omega)) fun e1 he1 => ?_
     have hbe1 := UInt8.toNat_lt e1
     refine At.lVp 5 27 (.tmp 26) false 1 (((block.drop ((4 * (k : Int)).toNat)).take ((((4 * (k : Int)) + 4).toNat) - ((4 * (k : Int)).toNat))).map encU8) j 0 false 1 (encU8 e1) (.int .u8 (e1.toNat : Int)) (mapGet he1) ?_
     refine At.z 1 ?_
     refine AW.g ?_
     refine At.a 2 ?_
     refine At.idxArr (t := 99) (d := 30) (i := 103) (len := 64) (x := .tmp 3) (y := .tmp 29) (kd := .i64) (n := (k : Int)) (by kernel_rfl) (by kernel_rfl) (by kernel_rfl) (by kernel_rfl) (by omega) (by omega) ?_
     refine Exists.elim (gE q k (by omega)) fun e2 he2 => ?_
     refine At.ldB (t := 3) (d := 31) (i := 103) (off := k) (tb := 99) (m := 1) (x := .tmp 30) (b := false) (cs := (sp64 q)) (.int .i64 e2) (by kernel_rfl) (by kernel_rfl) (by kernel_rfl) (by kernel_rfl) (by kernel_rfl) (sp64Get (by omega) he2) ?_
     refine At.shift (t := 3) (u := 63) (d := 32) (op := .shl) (x := .tmp 31) (y := .const (.int .u64 8)) (kd := .i64) (kd' := .u64) (a := e2) (b := 8) (shV .shl .i64 e2 8) (by kernel_rfl) (by kernel_rfl) (by kernel_rfl) (by kernel_rfl) (by omega) (shS_shl _ _ _) ?_
     refine At.a 1 ?_
     refine At.conv (s := 5) (t := 3) (d := 34) (x := .tmp 33) (kd := .u8) (kd' := .i64) (a := (e1.toNat : Int)) (.int .i64 (e1.toNat : Int)) (by kernel_rfl) (by kernel_rfl) (by kernel_rfl) (by kernel_rfl) (sayI _ (by have := UInt8.toNat_lt e1; omega)) ?_
     refine At.bits (t := 3) (u := 3) (d := 35) (op := .or) (x := .tmp 32) (y := .tmp 34) (kd := .i64) (a := shV .shl .i64 e2 8) (b := (e1.toNat : Int)) (partW block k j * 256 + (e1.toNat : Int)) (by kernel_rfl) (by kernel_rfl) (by kernel_rfl) (by kernel_rfl) ((bitS_or _ _ _).trans (congrArg some ((orShl (by have := partW_small (b := block) (i := k) (j := j) (by omega); rw [wrdQ_get2 hq he2]; omega) (by omega)).trans (by rw [wrdQ_get2 hq he2])))) ?_
     refine At.idxArr (t := 99) (d := 36) (i := 103) (len := 64) (x := .tmp 3) (y := .tmp 28) (kd := .i64) (n := (k : Int)) (by kernel_rfl) (by kernel_rfl) (by kernel_rfl) (by kernel_rfl) (by omega) (by omega) ?_
     refine At.stB (t := 3) (i := 103) (off := k) (tb := 99) (m := 1) (x := .tmp 36) (y := .tmp 35) (cs := (sp64 q)) (ys := [.int .i64 (partW block k j * 256 + (e1.toNat : Int))]) (v := .int .i64 (partW block k j * 256 + (e1.toNat : Int))) (sp64 (q.set k (partW block k j * 256 + (e1.toNat : Int)))) (by kernel_rfl) (by kernel_rfl) (by kernel_rfl) (by kernel_rfl) (by kernel_rfl) (by kernel_rfl) rfl (sp64Set (by omega) (by omega)) ?_
     refine At.done rfl ?_
     refine AW.g ?_
     refine At.a 1 ?_
     refine At.sI 37 ((j : Int) + 1) (by omega) ?_
     refine At.z 1 ?_
     exact ⟨(j + 1, (q.set k (partW block k j * 256 + (e1.toNat : Int)))), ⟨by omega, by rw [hq, wrdQ_set (partGet2 he1) rfl], by rw [List.length_set]; omega⟩, (by simp only; omega), Sub.o [(102, 102), (103, 103)] [true, false, true, true, true, false, false, false, false, false, false, false, false, true, false, false, false, false, false, false, false, false, true, true, true]⟩
   refine AW.exit ?_
   refine AW.g ?_
   refine At.a 1 ?_
   refine At.sI 38 ((k : Int) + 1) (by omega) ?_
   refine At.z 1 ?_
   exact ⟨(k + 1, q), ⟨by omega, by rw [hq, show j = 4 by omega, wrdQ_end (by omega)], by assumption⟩, (by simp only; omega), Sub.o [(102, 102), (103, 103)] [true, false, true, true, false, false, false, false, false, false, false, false, false, true]⟩
 refine AW.exit ?_
 refine AW.seq ?_
 refine AW.q 1 ?_
 refine AW.block ?_
 refine AW.loopW (fun (x : Nat × List Int) => match x with | (t, g) => Go.Sy.mk [.un, .un, .ptr 102 0 0, .ptr 103 0 0, .un, .un, .un, .int .i64 (t : Int)] [(102, .box 99 (sp64 (List.replicate 64 (0 : Int)))), (103, .box 99 (sp64 g))]) (fun (x : Nat × List Int) => match x with | (t, g) => 16 ≤ t ∧ t ≤ 64 ∧ ∃ l, l.length = t ∧ AllW l ∧ g = l ++ List.replicate (64 - t) 0 ∧ schedI block = extW (64 - t) l) (fun (x : Nat × List Int) => match x with | (t, g) => 64 - t) (16, q) ⟨by omega, by omega, wordsI block 16, by rw [wordsI_len], wordsI_all _ _, by rw [hq0, show k = 16 by omega], rfl⟩ (Sub.o [(102, 102), (103, 103)] [false, false, true, true, false, false, false, true]) ?_
 rintro ⟨t, g⟩ ⟨ht1, ht2, l, hl, hla, hq, hR⟩
 have hqa : AllW g := hq ▸ hla.zeros (64 - t)
 have hql : g.length = 64 := by rw [hq, List.length_append, List.length_replicate]; omega
 refine AW.seq ?_
 refine AW.q 2 ?_
 refine AW.cD ((t : Int) < 64) (fun h3 => ?_) (fun h3 => ?_)
 · refine AW.skip ?_
   refine AW.seq ?_
   refine AW.block ?_
   refine AW.seq ?_
   refine AW.gD Try_mix ?_
   refine At.a 2 ?_
   refine At.sI 44 ((t : Int) - 15) (by omega) ?_
   refine At.idxArr (t := 99) (d := 45) (i := 103) (len := 64) (x := .tmp 3) (y := .tmp 44) (kd := .i64) (n := (t : Int) - 15) (by kernel_rfl) (by kernel_rfl) (by kernel_rfl) (by kernel_rfl) (by omega) (by omega) ?_
   refine Exists.elim (gE g (((t : Int) - 15).toNat) (by omega)) fun e3 he3 => ?_
   have hbe3 := hqa _ (List.mem_of_getElem? he3)
   have hsAe3 := sgA_bd hbe3
   have hsBe3 := sgB_bd hbe3
   unfold W32 at hbe3
   unfold W32 sgA at hsAe3
   unfold W32 sgB at hsBe3
   refine At.ldB (t := 3) (d := 46) (i := 103) (off := (((t : Int) - 15).toNat)) (tb := 99) (m := 1) (x := .tmp 45) (b := false) (cs := (sp64 g)) (.int .i64 e3) (by kernel_rfl) (by kernel_rfl) (by kernel_rfl) (by kernel_rfl) (by kernel_rfl) (sp64Get (by omega) he3) ?_
   refine At.a 2 ?_
   refine At.sI 48 ((t : Int) - 2) (by omega) ?_
   refine At.idxArr (t := 99) (d := 49) (i := 103) (len := 64) (x := .tmp 3) (y := .tmp 48) (kd := .i64) (n := (t : Int) - 2) (by kernel_rfl) (by kernel_rfl) (by kernel_rfl) (by kernel_rfl) (by omega) (by omega) ?_
   refine Exists.elim (gE g (((t : Int) - 2).toNat) (by omega)) fun e4 he4 => ?_
   have hbe4 := hqa _ (List.mem_of_getElem? he4)
   have hsAe4 := sgA_bd hbe4
   have hsBe4 := sgB_bd hbe4
   unfold W32 at hbe4
   unfold W32 sgA at hsAe4
   unfold W32 sgB at hsBe4
   refine At.ldB (t := 3) (d := 50) (i := 103) (off := (((t : Int) - 2).toNat)) (tb := 99) (m := 1) (x := .tmp 49) (b := false) (cs := (sp64 g)) (.int .i64 e4) (by kernel_rfl) (by kernel_rfl) (by kernel_rfl) (by kernel_rfl) (by kernel_rfl) (sp64Get (by omega) he4) ?_
   refine At.zD 2 ?_
   refine AW.r ?_
   refine At.a 1 ?_
   refine At.c (impl_turnRight_spec  e3 7 (by omega) (by omega)) Try.call65 true [] [] [] trivial ?_
   refine At.a 1 ?_
   refine At.c (impl_turnRight_spec  e3 18 (by omega) (by omega)) Try.call65 true [] [] [] trivial ?_
   refine At.bits (t := 3) (u := 3) (d := 55) (op := .xor) (x := .tmp 52) (y := .tmp 54) (kd := .i64) (a := turnI e3 7) (b := turnI e3 18) (bitV .xor .i64 (turnI e3 7) (turnI e3 18)) (by kernel_rfl) (by kernel_rfl) (by kernel_rfl) (by kernel_rfl) (bitS_xor _ _ _) ?_
   refine At.a 1 ?_
   refine At.shift (t := 3) (u := 63) (d := 57) (op := .shr) (x := .tmp 56) (y := .const (.int .u64 3)) (kd := .i64) (kd' := .u64) (a := e3) (b := 3) (shV .shr .i64 e3 3) (by kernel_rfl) (by kernel_rfl) (by kernel_rfl) (by kernel_rfl) (by omega) (shS_shr _ _ _) ?_
   refine At.bits (t := 3) (u := 3) (d := 58) (op := .xor) (x := .tmp 55) (y := .tmp 57) (kd := .i64) (a := bitV .xor .i64 (turnI e3 7) (turnI e3 18)) (b := shV .shr .i64 e3 3) (bitV .xor .i64 (bitV .xor .i64 (turnI e3 7) (turnI e3 18)) (shV .shr .i64 e3 3)) (by kernel_rfl) (by kernel_rfl) (by kernel_rfl) (by kernel_rfl) (bitS_xor _ _ _) ?_
   refine At.z 1 ?_
   refine AW.r ?_
   refine At.a 1 ?_
   refine At.c (impl_turnRight_spec  e4 17 (by omega) (by omega)) Try.call65 true [] [] [] trivial ?_
   refine At.a 1 ?_
   refine At.c (impl_turnRight_spec  e4 19 (by omega) (by omega)) Try.call65 true [] [] [] trivial ?_
   refine At.bits (t := 3) (u := 3) (d := 63) (op := .xor) (x := .tmp 60) (y := .tmp 62) (kd := .i64) (a := turnI e4 17) (b := turnI e4 19) (bitV .xor .i64 (turnI e4 17) (turnI e4 19)) (by kernel_rfl) (by kernel_rfl) (by kernel_rfl) (by kernel_rfl) (bitS_xor _ _ _) ?_
   refine At.a 1 ?_
   refine At.shift (t := 3) (u := 63) (d := 65) (op := .shr) (x := .tmp 64) (y := .const (.int .u64 10)) (kd := .i64) (kd' := .u64) (a := e4) (b := 10) (shV .shr .i64 e4 10) (by kernel_rfl) (by kernel_rfl) (by kernel_rfl) (by kernel_rfl) (by omega) (shS_shr _ _ _) ?_
   refine At.bits (t := 3) (u := 3) (d := 66) (op := .xor) (x := .tmp 63) (y := .tmp 65) (kd := .i64) (a := bitV .xor .i64 (turnI e4 17) (turnI e4 19)) (b := shV .shr .i64 e4 10) (bitV .xor .i64 (bitV .xor .i64 (turnI e4 17) (turnI e4 19)) (shV .shr .i64 e4 10)) (by kernel_rfl) (by kernel_rfl) (by kernel_rfl) (by kernel_rfl) (bitS_xor _ _ _) ?_
   refine At.z 1 ?_
   refine AW.gD Try_mix ?_
   refine At.a 4 ?_
   refine At.sI 70 ((t : Int) - 7) (by omega) ?_
   refine At.idxArr (t := 99) (d := 71) (i := 103) (len := 64) (x := .tmp 3) (y := .tmp 70) (kd := .i64) (n := (t : Int) - 7) (by kernel_rfl) (by kernel_rfl) (by kernel_rfl) (by kernel_rfl) (by omega) (by omega) ?_
   refine Exists.elim (gE g (((t : Int) - 7).toNat) (by omega)) fun e5 he5 => ?_
   have hbe5 := hqa _ (List.mem_of_getElem? he5)
   have hsAe5 := sgA_bd hbe5
   have hsBe5 := sgB_bd hbe5
   unfold W32 at hbe5
   unfold W32 sgA at hsAe5
   unfold W32 sgB at hsBe5
   refine At.ldB (t := 3) (d := 72) (i := 103) (off := (((t : Int) - 7).toNat)) (tb := 99) (m := 1) (x := .tmp 71) (b := false) (cs := (sp64 g)) (.int .i64 e5) (by kernel_rfl) (by kernel_rfl) (by kernel_rfl) (by kernel_rfl) (by kernel_rfl) (sp64Get (by omega) he5) ?_
   refine At.a 1 ?_
   refine At.sI 73 ((bitV .xor .i64 (bitV .xor .i64 (turnI e4 17) (turnI e4 19)) (shV .shr .i64 e4 10)) + e5) (by omega) ?_
   refine At.a 2 ?_
   refine At.sI 75 (((bitV .xor .i64 (bitV .xor .i64 (turnI e4 17) (turnI e4 19)) (shV .shr .i64 e4 10)) + e5) + (bitV .xor .i64 (bitV .xor .i64 (turnI e3 7) (turnI e3 18)) (shV .shr .i64 e3 3))) (by omega) ?_
   refine At.a 2 ?_
   refine At.sI 77 ((t : Int) - 16) (by omega) ?_
   refine At.idxArr (t := 99) (d := 78) (i := 103) (len := 64) (x := .tmp 3) (y := .tmp 77) (kd := .i64) (n := (t : Int) - 16) (by kernel_rfl) (by kernel_rfl) (by kernel_rfl) (by kernel_rfl) (by omega) (by omega) ?_
   refine Exists.elim (gE g (((t : Int) - 16).toNat) (by omega)) fun e6 he6 => ?_
   have hbe6 := hqa _ (List.mem_of_getElem? he6)
   have hsAe6 := sgA_bd hbe6
   have hsBe6 := sgB_bd hbe6
   unfold W32 at hbe6
   unfold W32 sgA at hsAe6
   unfold W32 sgB at hsBe6
   refine At.ldB (t := 3) (d := 79) (i := 103) (off := (((t : Int) - 16).toNat)) (tb := 99) (m := 1) (x := .tmp 78) (b := false) (cs := (sp64 g)) (.int .i64 e6) (by kernel_rfl) (by kernel_rfl) (by kernel_rfl) (by kernel_rfl) (by kernel_rfl) (sp64Get (by omega) he6) ?_
   refine At.a 1 ?_
   refine At.sI 80 ((((bitV .xor .i64 (bitV .xor .i64 (turnI e4 17) (turnI e4 19)) (shV .shr .i64 e4 10)) + e5) + (bitV .xor .i64 (bitV .xor .i64 (turnI e3 7) (turnI e3 18)) (shV .shr .i64 e3 3))) + e6) (by omega) ?_
   refine At.bits (t := 3) (u := 3) (d := 81) (op := .and) (x := .tmp 80) (y := .const (.int .i64 4294967295)) (kd := .i64) (a := (((bitV .xor .i64 (bitV .xor .i64 (turnI e4 17) (turnI e4 19)) (shV .shr .i64 e4 10)) + e5) + (bitV .xor .i64 (bitV .xor .i64 (turnI e3 7) (turnI e3 18)) (shV .shr .i64 e3 3))) + e6) (b := 4294967295) (((((bitV .xor .i64 (bitV .xor .i64 (turnI e4 17) (turnI e4 19)) (shV .shr .i64 e4 10)) + e5) + (bitV .xor .i64 (bitV .xor .i64 (turnI e3 7) (turnI e3 18)) (shV .shr .i64 e3 3))) + e6) % 4294967296) (by kernel_rfl) (by kernel_rfl) (by kernel_rfl) (by kernel_rfl) (andM 32 4294967296 _ _ (by decide) (by decide) (by decide)) ?_
   refine At.idxArr (t := 99) (d := 82) (i := 103) (len := 64) (x := .tmp 3) (y := .tmp 67) (kd := .i64) (n := (t : Int)) (by kernel_rfl) (by kernel_rfl) (by kernel_rfl) (by kernel_rfl) (by omega) (by omega) ?_
   refine At.stB (t := 3) (i := 103) (off := t) (tb := 99) (m := 1) (x := .tmp 82) (y := .tmp 81) (cs := (sp64 g)) (ys := [.int .i64 (((((bitV .xor .i64 (bitV .xor .i64 (turnI e4 17) (turnI e4 19)) (shV .shr .i64 e4 10)) + e5) + (bitV .xor .i64 (bitV .xor .i64 (turnI e3 7) (turnI e3 18)) (shV .shr .i64 e3 3))) + e6) % 4294967296)]) (v := .int .i64 (((((bitV .xor .i64 (bitV .xor .i64 (turnI e4 17) (turnI e4 19)) (shV .shr .i64 e4 10)) + e5) + (bitV .xor .i64 (bitV .xor .i64 (turnI e3 7) (turnI e3 18)) (shV .shr .i64 e3 3))) + e6) % 4294967296)) (sp64 (g.set t (((((bitV .xor .i64 (bitV .xor .i64 (turnI e4 17) (turnI e4 19)) (shV .shr .i64 e4 10)) + e5) + (bitV .xor .i64 (bitV .xor .i64 (turnI e3 7) (turnI e3 18)) (shV .shr .i64 e3 3))) + e6) % 4294967296))) (by kernel_rfl) (by kernel_rfl) (by kernel_rfl) (by kernel_rfl) (by kernel_rfl) (by kernel_rfl) rfl (sp64Set (by omega) (by omega)) ?_
   refine At.done rfl ⟨by kernel_rfl, ?_⟩
   refine AW.g ?_
   refine At.a 2 ?_
   refine At.sI 42 ((t : Int) + 1) (by omega) ?_
   refine At.z 1 ?_
   exact ⟨(t + 1, (g.set t (((((bitV .xor .i64 (bitV .xor .i64 (turnI e4 17) (turnI e4 19)) (shV .shr .i64 e4 10)) + e5) + (bitV .xor .i64 (bitV .xor .i64 (turnI e3 7) (turnI e3 18)) (shV .shr .i64 e3 3))) + e6) % 4294967296))), ⟨by omega, by omega, l ++ [nxW l], by simp [hl], hla.snoc (nxW_bd l), ext_set2 hq hl (by omega) (nx_of2 hl (at_of hq (by omega) (nat_at he3 (by omega))) (at_of hq (by omega) (nat_at he4 (by omega))) (at_of hq (by omega) (nat_at he5 (by omega))) (at_of hq (by omega) (nat_at he6 (by omega)))), by rw [hR, ext_step (by omega)]⟩, (by simp only; omega), Sub.o [(102, 102), (103, 103)] [false, false, true, true, false, false, false, true]⟩
 refine AW.exit ?_
 refine AW.q 2 ?_
 refine AW.ret ?_
 refine ⟨_, Sub.refl _ _, ?_⟩
 refine KF.conv (fun w => .agg (sp64 w)) (fun w => []) (show (g) = (schedI block) from by rw [hR, hq, show 64 - t = 0 by omega]; exact List.append_nil l) ?_
 exact KF.n []
theorem impl_round_spec  (h : List Int) (b : List UInt8) (hh : h.length = 8) (ha : AllW h) (hb : b.length = 64) : FnSpec Try.prog 45 [.agg (sp8 h), .sl false 1 (b.map encU8)] [] (.agg (sp8 (roundI h b))) [] := by
 have hkl := keysI_len
 have hsl := sched_len b
 have hsa := sched_all b
 refine FnSpec.of 131 Try.func45 rfl Try.ntmps45 (by simp) (AW.weakK ?_)
 refine AW.q 2 ?_
 refine AW.r ?_
 refine At.c (impl_constants_spec   ) Try.call63 true [] [] [] trivial ?_
 refine At.z 2 ?_
 refine AW.r ?_
 refine At.a 1 ?_
 refine At.c (impl_expanded_spec  b hb) Try.call64 true [] [] [] trivial ?_
 refine At.z 2 ?_
 refine AW.seq ?_
 refine AW.gD Try_mix ?_
 refine At.idxArr (t := 77) (d := 25) (i := 102) (len := 8) (x := .tmp 2) (y := .const (.int .i64 0)) (kd := .i64) (n := 0) (by kernel_rfl) (by kernel_rfl) (by kernel_rfl) (by kernel_rfl) (by omega) (by omega) ?_
 refine At.a 1 ?_
 refine At.idxArr (t := 77) (d := 27) (i := 102) (len := 8) (x := .tmp 2) (y := .const (.int .i64 1)) (kd := .i64) (n := 1) (by kernel_rfl) (by kernel_rfl) (by kernel_rfl) (by kernel_rfl) (by omega) (by omega) ?_
 refine At.a 1 ?_
 refine At.idxArr (t := 77) (d := 29) (i := 102) (len := 8) (x := .tmp 2) (y := .const (.int .i64 2)) (kd := .i64) (n := 2) (by kernel_rfl) (by kernel_rfl) (by kernel_rfl) (by kernel_rfl) (by omega) (by omega) ?_
 refine At.a 1 ?_
 refine At.idxArr (t := 77) (d := 31) (i := 102) (len := 8) (x := .tmp 2) (y := .const (.int .i64 3)) (kd := .i64) (n := 3) (by kernel_rfl) (by kernel_rfl) (by kernel_rfl) (by kernel_rfl) (by omega) (by omega) ?_
 refine At.a 1 ?_
 refine At.idxArr (t := 77) (d := 33) (i := 102) (len := 8) (x := .tmp 2) (y := .const (.int .i64 4)) (kd := .i64) (n := 4) (by kernel_rfl) (by kernel_rfl) (by kernel_rfl) (by kernel_rfl) (by omega) (by omega) ?_
 refine At.a 1 ?_
 refine At.idxArr (t := 77) (d := 35) (i := 102) (len := 8) (x := .tmp 2) (y := .const (.int .i64 5)) (kd := .i64) (n := 5) (by kernel_rfl) (by kernel_rfl) (by kernel_rfl) (by kernel_rfl) (by omega) (by omega) ?_
 refine At.a 1 ?_
 refine At.idxArr (t := 77) (d := 37) (i := 102) (len := 8) (x := .tmp 2) (y := .const (.int .i64 6)) (kd := .i64) (n := 6) (by kernel_rfl) (by kernel_rfl) (by kernel_rfl) (by kernel_rfl) (by omega) (by omega) ?_
 refine At.a 1 ?_
 refine At.idxArr (t := 77) (d := 39) (i := 102) (len := 8) (x := .tmp 2) (y := .const (.int .i64 7)) (kd := .i64) (n := 7) (by kernel_rfl) (by kernel_rfl) (by kernel_rfl) (by kernel_rfl) (by omega) (by omega) ?_
 refine At.zD 9 ?_
 refine AW.seq ?_
 refine AW.q 1 ?_
 refine AW.block ?_
 refine AW.loopW (fun (x : Nat × V8) => match x with | (t, v) => Go.Sy.mk [.un, .un, .ptr 102 0 0, .un, .ptr 104 0 0, .ptr 105 0 0, .ptr 106 0 0, .int .i64 v.a, .int .i64 v.b, .int .i64 v.c, .int .i64 v.d, .int .i64 v.e, .int .i64 v.f, .int .i64 v.g, .int .i64 v.h, .un, .un, .un, .un, .un, .un, .un, .un, .un, .un, .un, .un, .un, .un, .un, .un, .un, .un, .un, .un, .un, .un, .un, .un, .un, .un, .int .i64 (t : Int)] [(102, .box 77 (sp8 h)), (104, .box 77 (sp8 (List.replicate 8 (0 : Int)))), (105, .box 99 (sp64 keysI)), (106, .box 99 (sp64 (schedI b)))]) (fun (x : Nat × V8) => match x with | (t, v) => t ≤ 64 ∧ v.all ∧ runV keysI (schedI b) (V8.of h) = runV (keysI.drop t) ((schedI b).drop t) v) (fun (x : Nat × V8) => match x with | (t, v) => 64 - t) (0, V8.of h) ⟨by omega, of_all ha, rfl⟩ (Sub.o [(102, 102), (104, 104), (105, 105), (106, 106)] [false, false, true, false, true, true, true, true, true, true, true, true, true, true, true, false, false, false, false, false, false, false, false, false, false, false, false, false, false, false, false, false, false, false, false, false, false, false, false, false, false, true]) ?_
 rintro ⟨t, v⟩ ⟨ht, hv, hR⟩
 have hC := sgC_bd v.e
 have hD := sgD_bd v.a
 obtain ⟨v1, v2, v3, v4, v5, v6, v7, v8⟩ := id hv
 have hch := ch_bd v5 v6 v7
 have hmj := mj_bd v1 v2 v3
 unfold W32 sgC at hC
 unfold W32 sgD at hD
 unfold W32 chI at hch
 unfold W32 mjI at hmj
 unfold W32 at v1 v2 v3 v4 v5 v6 v7 v8
 refine AW.q 1 ?_
 refine AW.seq ?_
 refine AW.cD ((t : Int) < 64) (fun h1 => ?_) (fun h1 => ?_)
 · refine AW.skip ?_
   refine AW.seq ?_
   refine AW.block ?_
   refine AW.q 2 ?_
   refine AW.r ?_
   refine At.a 1 ?_
   refine At.c (impl_turnRight_spec  v.e 6 (by omega) (by omega)) Try.call65 true [] [] [] trivial ?_
   refine At.a 1 ?_
   refine At.c (impl_turnRight_spec  v.e 11 (by omega) (by omega)) Try.call65 true [] [] [] trivial ?_
   refine At.bits (t := 3) (u := 3) (d := 48) (op := .xor) (x := .tmp 45) (y := .tmp 47) (kd := .i64) (a := turnI v.e 6) (b := turnI v.e 11) (bitV .xor .i64 (turnI v.e 6) (turnI v.e 11)) (by kernel_rfl) (by kernel_rfl) (by kernel_rfl) (by kernel_rfl) (bitS_xor _ _ _) ?_
   refine At.a 1 ?_
   refine At.c (impl_turnRight_spec  v.e 25 (by omega) (by omega)) Try.call65 true [] [] [] trivial ?_
   refine At.bits (t := 3) (u := 3) (d := 51) (op := .xor) (x := .tmp 48) (y := .tmp 50) (kd := .i64) (a := bitV .xor .i64 (turnI v.e 6) (turnI v.e 11)) (b := turnI v.e 25) (bitV .xor .i64 (bitV .xor .i64 (turnI v.e 6) (turnI v.e 11)) (turnI v.e 25)) (by kernel_rfl) (by kernel_rfl) (by kernel_rfl) (by kernel_rfl) (bitS_xor _ _ _) ?_
   refine At.z 1 ?_
   refine AW.seq ?_
   refine AW.gD Try_mix ?_
   refine At.a 3 ?_
   refine At.sI 54 (v.h + (bitV .xor .i64 (bitV .xor .i64 (turnI v.e 6) (turnI v.e 11)) (turnI v.e 25))) (by omega) ?_
   refine At.a 2 ?_
   refine At.bits (t := 3) (u := 3) (d := 57) (op := .and) (x := .tmp 55) (y := .tmp 56) (kd := .i64) (a := v.e) (b := v.f) (bitV .and .i64 v.e v.f) (by kernel_rfl) (by kernel_rfl) (by kernel_rfl) (by kernel_rfl) (bitS_and _ _ _) ?_
   refine At.a 1 ?_
   refine At.bits (t := 3) (u := 3) (d := 59) (op := .xor) (x := .const (.int .i64 4294967295)) (y := .tmp 58) (kd := .i64) (a := 4294967295) (b := v.e) (bitV .xor .i64 4294967295 v.e) (by kernel_rfl) (by kernel_rfl) (by kernel_rfl) (by kernel_rfl) (bitS_xor _ _ _) ?_
   refine At.a 1 ?_
   refine At.bits (t := 3) (u := 3) (d := 61) (op := .and) (x := .tmp 59) (y := .tmp 60) (kd := .i64) (a := bitV .xor .i64 4294967295 v.e) (b := v.g) (bitV .and .i64 (bitV .xor .i64 4294967295 v.e) v.g) (by kernel_rfl) (by kernel_rfl) (by kernel_rfl) (by kernel_rfl) (bitS_and _ _ _) ?_
   refine At.bits (t := 3) (u := 3) (d := 62) (op := .xor) (x := .tmp 57) (y := .tmp 61) (kd := .i64) (a := bitV .and .i64 v.e v.f) (b := bitV .and .i64 (bitV .xor .i64 4294967295 v.e) v.g) (bitV .xor .i64 (bitV .and .i64 v.e v.f) (bitV .and .i64 (bitV .xor .i64 4294967295 v.e) v.g)) (by kernel_rfl) (by kernel_rfl) (by kernel_rfl) (by kernel_rfl) (bitS_xor _ _ _) ?_
   refine At.a 1 ?_
   refine At.sI 63 ((v.h + (bitV .xor .i64 (bitV .xor .i64 (turnI v.e 6) (turnI v.e 11)) (turnI v.e 25))) + (bitV .xor .i64 (bitV .and .i64 v.e v.f) (bitV .and .i64 (bitV .xor .i64 4294967295 v.e) v.g))) (by omega) ?_
   refine At.a 1 ?_
   refine At.idxArr (t := 99) (d := 65) (i := 105) (len := 64) (x := .tmp 5) (y := .tmp 64) (kd := .i64) (n := (t : Int)) (by kernel_rfl) (by kernel_rfl) (by kernel_rfl) (by kernel_rfl) (by omega) (by omega) ?_
   refine Exists.elim (gE keysI t (by omega)) fun e1 he1 => ?_
   have hbe1 := keysI_bd _ (List.mem_of_getElem? he1)
   unfold W32 at hbe1
   refine At.ldB (t := 3) (d := 66) (i := 105) (off := t) (tb := 99) (m := 1) (x := .tmp 65) (b := false) (cs := (sp64 keysI)) (.int .i64 e1) (by kernel_rfl) (by kernel_rfl) (by kernel_rfl) (by kernel_rfl) (by kernel_rfl) (sp64Get (by omega) he1) ?_
   refine At.a 1 ?_
   refine At.sI 67 (((v.h + (bitV .xor .i64 (bitV .xor .i64 (turnI v.e 6) (turnI v.e 11)) (turnI v.e 25))) + (bitV .xor .i64 (bitV .and .i64 v.e v.f) (bitV .and .i64 (bitV .xor .i64 4294967295 v.e) v.g))) + e1) (by omega) ?_
   refine At.a 1 ?_
   refine At.idxArr (t := 99) (d := 69) (i := 106) (len := 64) (x := .tmp 6) (y := .tmp 68) (kd := .i64) (n := (t : Int)) (by kernel_rfl) (by kernel_rfl) (by kernel_rfl) (by kernel_rfl) (by omega) (by omega) ?_
   refine Exists.elim (gE (schedI b) t (by omega)) fun e2 he2 => ?_
   have hbe2 := sched_all _ _ (List.mem_of_getElem? he2)
   unfold W32 at hbe2
   refine At.ldB (t := 3) (d := 70) (i := 106) (off := t) (tb := 99) (m := 1) (x := .tmp 69) (b := false) (cs := (sp64 (schedI b))) (.int .i64 e2) (by kernel_rfl) (by kernel_rfl) (by kernel_rfl) (by kernel_rfl) (by kernel_rfl) (sp64Get (by omega) he2) ?_
   refine At.a 1 ?_
   refine At.sI 71 ((((v.h + (bitV .xor .i64 (bitV .xor .i64 (turnI v.e 6) (turnI v.e 11)) (turnI v.e 25))) + (bitV .xor .i64 (bitV .and .i64 v.e v.f) (bitV .and .i64 (bitV .xor .i64 4294967295 v.e) v.g))) + e1) + e2) (by omega) ?_
   refine At.zD 1 ?_
   refine AW.r ?_
   refine At.a 1 ?_
   refine At.c (impl_turnRight_spec  v.a 2 (by omega) (by omega)) Try.call65 true [] [] [] trivial ?_
   refine At.a 1 ?_
   refine At.c (impl_turnRight_spec  v.a 13 (by omega) (by omega)) Try.call65 true [] [] [] trivial ?_
   refine At.bits (t := 3) (u := 3) (d := 76) (op := .xor) (x := .tmp 73) (y := .tmp 75) (kd := .i64) (a := turnI v.a 2) (b := turnI v.a 13) (bitV .xor .i64 (turnI v.a 2) (turnI v.a 13)) (by kernel_rfl) (by kernel_rfl) (by kernel_rfl) (by kernel_rfl) (bitS_xor _ _ _) ?_
   refine At.a 1 ?_
   refine At.c (impl_turnRight_spec  v.a 22 (by omega) (by omega)) Try.call65 true [] [] [] trivial ?_
   refine At.bits (t := 3) (u := 3) (d := 79) (op := .xor) (x := .tmp 76) (y := .tmp 78) (kd := .i64) (a := bitV .xor .i64 (turnI v.a 2) (turnI v.a 13)) (b := turnI v.a 22) (bitV .xor .i64 (bitV .xor .i64 (turnI v.a 2) (turnI v.a 13)) (turnI v.a 22)) (by kernel_rfl) (by kernel_rfl) (by kernel_rfl) (by kernel_rfl) (bitS_xor _ _ _) ?_
   refine At.z 1 ?_
   refine AW.r ?_
   refine At.a 3 ?_
   refine At.bits (t := 3) (u := 3) (d := 83) (op := .and) (x := .tmp 81) (y := .tmp 82) (kd := .i64) (a := v.a) (b := v.b) (bitV .and .i64 v.a v.b) (by kernel_rfl) (by kernel_rfl) (by kernel_rfl) (by kernel_rfl) (bitS_and _ _ _) ?_
   refine At.a 2 ?_
   refine At.bits (t := 3) (u := 3) (d := 86) (op := .and) (x := .tmp 84) (y := .tmp 85) (kd := .i64) (a := v.a) (b := v.c) (bitV .and .i64 v.a v.c) (by kernel_rfl) (by kernel_rfl) (by kernel_rfl) (by kernel_rfl) (bitS_and _ _ _) ?_
   refine At.bits (t := 3) (u := 3) (d := 87) (op := .xor) (x := .tmp 83) (y := .tmp 86) (kd := .i64) (a := bitV .and .i64 v.a v.b) (b := bitV .and .i64 v.a v.c) (bitV .xor .i64 (bitV .and .i64 v.a v.b) (bitV .and .i64 v.a v.c)) (by kernel_rfl) (by kernel_rfl) (by kernel_rfl) (by kernel_rfl) (bitS_xor _ _ _) ?_
   refine At.a 2 ?_
   refine At.bits (t := 3) (u := 3) (d := 90) (op := .and) (x := .tmp 88) (y := .tmp 89) (kd := .i64) (a := v.b) (b := v.c) (bitV .and .i64 v.b v.c) (by kernel_rfl) (by kernel_rfl) (by kernel_rfl) (by kernel_rfl) (bitS_and _ _ _) ?_
   refine At.bits (t := 3) (u := 3) (d := 91) (op := .xor) (x := .tmp 87) (y := .tmp 90) (kd := .i64) (a := bitV .xor .i64 (bitV .and .i64 v.a v.b) (bitV .and .i64 v.a v.c)) (b := bitV .and .i64 v.b v.c) (bitV .xor .i64 (bitV .xor .i64 (bitV .and .i64 v.a v.b) (bitV .and .i64 v.a v.c)) (bitV .and .i64 v.b v.c)) (by kernel_rfl) (by kernel_rfl) (by kernel_rfl) (by kernel_rfl) (bitS_xor _ _ _) ?_
   refine At.a 1 ?_
   refine At.sI 92 ((bitV .xor .i64 (bitV .xor .i64 (turnI v.a 2) (turnI v.a 13)) (turnI v.a 22)) + (bitV .xor .i64 (bitV .xor .i64 (bitV .and .i64 v.a v.b) (bitV .and .i64 v.a v.c)) (bitV .and .i64 v.b v.c))) (by omega) ?_
   refine At.z 1 ?_
   refine AW.r ?_
   refine At.a 6 ?_
   refine At.sI 98 (v.d + ((((v.h + (bitV .xor .i64 (bitV .xor .i64 (turnI v.e 6) (turnI v.e 11)) (turnI v.e 25))) + (bitV .xor .i64 (bitV .and .i64 v.e v.f) (bitV .and .i64 (bitV .xor .i64 4294967295 v.e) v.g))) + e1) + e2)) (by omega) ?_
   refine At.bits (t := 3) (u := 3) (d := 99) (op := .and) (x := .tmp 98) (y := .const (.int .i64 4294967295)) (kd := .i64) (a := v.d + ((((v.h + (bitV .xor .i64 (bitV .xor .i64 (turnI v.e 6) (turnI v.e 11)) (turnI v.e 25))) + (bitV .xor .i64 (bitV .and .i64 v.e v.f) (bitV .and .i64 (bitV .xor .i64 4294967295 v.e) v.g))) + e1) + e2)) (b := 4294967295) ((v.d + ((((v.h + (bitV .xor .i64 (bitV .xor .i64 (turnI v.e 6) (turnI v.e 11)) (turnI v.e 25))) + (bitV .xor .i64 (bitV .and .i64 v.e v.f) (bitV .and .i64 (bitV .xor .i64 4294967295 v.e) v.g))) + e1) + e2)) % 4294967296) (by kernel_rfl) (by kernel_rfl) (by kernel_rfl) (by kernel_rfl) (andM 32 4294967296 _ _ (by decide) (by decide) (by decide)) ?_
   refine At.z 4 ?_
   refine AW.g ?_
   refine At.a 6 ?_
   refine At.sI 105 (((((v.h + (bitV .xor .i64 (bitV .xor .i64 (turnI v.e 6) (turnI v.e 11)) (turnI v.e 25))) + (bitV .xor .i64 (bitV .and .i64 v.e v.f) (bitV .and .i64 (bitV .xor .i64 4294967295 v.e) v.g))) + e1) + e2) + ((bitV .xor .i64 (bitV .xor .i64 (turnI v.a 2) (turnI v.a 13)) (turnI v.a 22)) + (bitV .xor .i64 (bitV .xor .i64 (bitV .and .i64 v.a v.b) (bitV .and .i64 v.a v.c)) (bitV .and .i64 v.b v.c)))) (by omega) ?_
   refine At.bits (t := 3) (u := 3) (d := 106) (op := .and) (x := .tmp 105) (y := .const (.int .i64 4294967295)) (kd := .i64) (a := ((((v.h + (bitV .xor .i64 (bitV .xor .i64 (turnI v.e 6) (turnI v.e 11)) (turnI v.e 25))) + (bitV .xor .i64 (bitV .and .i64 v.e v.f) (bitV .and .i64 (bitV .xor .i64 4294967295 v.e) v.g))) + e1) + e2) + ((bitV .xor .i64 (bitV .xor .i64 (turnI v.a 2) (turnI v.a 13)) (turnI v.a 22)) + (bitV .xor .i64 (bitV .xor .i64 (bitV .and .i64 v.a v.b) (bitV .and .i64 v.a v.c)) (bitV .and .i64 v.b v.c)))) (b := 4294967295) ((((((v.h + (bitV .xor .i64 (bitV .xor .i64 (turnI v.e 6) (turnI v.e 11)) (turnI v.e 25))) + (bitV .xor .i64 (bitV .and .i64 v.e v.f) (bitV .and .i64 (bitV .xor .i64 4294967295 v.e) v.g))) + e1) + e2) + ((bitV .xor .i64 (bitV .xor .i64 (turnI v.a 2) (turnI v.a 13)) (turnI v.a 22)) + (bitV .xor .i64 (bitV .xor .i64 (bitV .and .i64 v.a v.b) (bitV .and .i64 v.a v.c)) (bitV .and .i64 v.b v.c)))) % 4294967296) (by kernel_rfl) (by kernel_rfl) (by kernel_rfl) (by kernel_rfl) (andM 32 4294967296 _ _ (by decide) (by decide) (by decide)) ?_
   refine At.z 4 ?_
   refine AW.g ?_
   refine At.a 1 ?_
   refine At.sI 107 ((t : Int) + 1) (by omega) ?_
   refine At.z 1 ?_
   exact ⟨(t + 1, (⟨((((((v.h + (bitV .xor .i64 (bitV .xor .i64 (turnI v.e 6) (turnI v.e 11)) (turnI v.e 25))) + (bitV .xor .i64 (bitV .and .i64 v.e v.f) (bitV .and .i64 (bitV .xor .i64 4294967295 v.e) v.g))) + e1) + e2) + ((bitV .xor .i64 (bitV .xor .i64 (turnI v.a 2) (turnI v.a 13)) (turnI v.a 22)) + (bitV .xor .i64 (bitV .xor .i64 (bitV .and .i64 v.a v.b) (bitV .and .i64 v.a v.c)) (bitV .and .i64 v.b v.c)))) % 4294967296), v.a, v.b, v.c, ((v.d + ((((v.h + (bitV .xor .i64 (bitV .xor .i64 (turnI v.e 6) (turnI v.e 11)) (turnI v.e 25))) + (bitV .xor .i64 (bitV .and .i64 v.e v.f) (bitV .and .i64 (bitV .xor .i64 4294967295 v.e) v.g))) + e1) + e2)) % 4294967296), v.e, v.f, v.g⟩ : V8)), ⟨by omega, step_all3 hv, step_run3 hR he1 he2⟩, (by simp only; omega), Sub.o [(102, 102), (104, 104), (105, 105), (106, 106)] [false, false, true, false, true, true, true, true, true, true, true, true, true, true, true, false, false, false, false, false, false, false, false, false, false, false, false, false, false, false, false, false, false, false, false, false, false, false, false, false, false, true]⟩
 refine AW.exit ?_
 refine AW.seq ?_
 refine AW.r ?_
 refine At.a 8 ?_
 refine At.bldA (t := 77) (d := 116) (parts := #[(0, .tmp 108), (1, .tmp 109), (2, .tmp 110), (3, .tmp 111), (4, .tmp 112), (5, .tmp 113), (6, .tmp 114), (7, .tmp 115)]) (sp8 ([v.a, v.b, v.c, v.d, v.e, v.f, v.g, v.h])) (by kernel_rfl) (by kernel_rfl) (by kernel_rfl) (by kernel_rfl) ?_
 refine At.z 1 ?_
 refine AW.block ?_
 refine AW.loopW (fun (x : Nat × List Int) => match x with | (i, q) => Go.Sy.mk [.un, .un, .ptr 102 0 0, .un, .ptr 104 0 0, .un, .un, .un, .un, .un, .un, .un, .un, .un, .un, .un, .un, .un, .un, .un, .un, .un, .un, .un, .un, .un, .un, .un, .un, .un, .un, .un, .un, .un, .un, .un, .un, .un, .un, .un, .un, .un, .un, .un, .un, .un, .un, .un, .un, .un, .un, .un, .un, .un, .un, .un, .un, .un, .un, .un, .un, .un, .un, .un, .un, .un, .un, .un, .un, .un, .un, .un, .un, .un, .un, .un, .un, .un, .un, .un, .un, .un, .un, .un, .un, .un, .un, .un, .un, .un, .un, .un, .un, .un, .un, .un, .un, .un, .un, .un, .un, .un, .un, .un, .un, .un, .un, .un, .un, .un, .un, .un, .un, .un, .un, .un, .agg (sp8 ([v.a, v.b, v.c, v.d, v.e, v.f, v.g, v.h])), .int .i64 (i : Int)] [(102, .box 77 (sp8 q)), (104, .box 77 (sp8 (List.replicate 8 (0 : Int))))]) (fun (x : Nat × List Int) => match x with | (i, q) => i ≤ 8 ∧ q = addIn h [v.a, v.b, v.c, v.d, v.e, v.f, v.g, v.h] i ∧ q.length = 8 ∧ AllW q) (fun (x : Nat × List Int) => match x with | (i, q) => 8 - i) (0, h) ⟨by omega, (addIn_zero _ _).symm, hh, ha⟩ (Sub.o [(102, 102), (104, 104)] [false, false, true, false, true, false, false, false, false, false, false, false, false, false, false, false, false, false, false, false, false, false, false, false, false, false, false, false, false, false, false, false, false, false, false, false, false, false, false, false, false, false, false, false, false, false, false, false, false, false, false, false, false, false, false, false, false, false, false, false, false, false, false, false, false, false, false, false, false, false, false, false, false, false, false, false, false, false, false, false, false, false, false, false, false, false, false, false, false, false, false, false, false, false, false, false, false, false, false, false, false, false, false, false, false, false, false, false, false, false, false, false, false, false, false, false, true, true]) ?_
 rintro ⟨i, q⟩ ⟨hi, hq, hql, hqa⟩
 refine AW.q 1 ?_
 refine AW.seq ?_
 refine AW.cD ((i : Int) < 8) (fun h2 => ?_) (fun h2 => ?_)
 · refine AW.skip ?_
   refine AW.seq ?_
   refine AW.block ?_
   refine AW.r ?_
   refine At.a 1 ?_
   refine Exists.elim (gE ([v.a, v.b, v.c, v.d, v.e, v.f, v.g, v.h]) i (by simp only [List.length_map, List.length_append, List.length_take, List.length_drop, List.length_replicate, List.length_set, List.length_cons, List.length_nil]; omega)) fun e3 he3 => ?_
   have hbe3 := all_toL hv _ (List.mem_of_getElem? he3)
   unfold W32 at hbe3
   refine At.idxAgg (t := 77) (d := 120) (len := 8) (x := .tmp 116) (y := .tmp 117) (kd := .i64) (n := (i : Int)) (cs := (sp8 ([v.a, v.b, v.c, v.d, v.e, v.f, v.g, v.h]))) (.int .i64 e3) (by kernel_rfl) (by kernel_rfl) (by kernel_rfl) (by kernel_rfl) (by omega) (by omega) (sp8Get (by omega) he3) ?_
   refine At.z 2 ?_
   refine AW.g ?_
   refine At.a 2 ?_
   refine At.idxArr (t := 77) (d := 123) (i := 102) (len := 8) (x := .tmp 2) (y := .tmp 122) (kd := .i64) (n := (i : Int)) (by kernel_rfl) (by kernel_rfl) (by kernel_rfl) (by kernel_rfl) (by omega) (by omega) ?_
   refine Exists.elim (gE q i (by omega)) fun e4 he4 => ?_
   have hbe4 := hqa _ (List.mem_of_getElem? he4)
   unfold W32 at hbe4
   refine At.ldB (t := 3) (d := 124) (i := 102) (off := i) (tb := 77) (m := 1) (x := .tmp 123) (b := false) (cs := (sp8 q)) (.int .i64 e4) (by kernel_rfl) (by kernel_rfl) (by kernel_rfl) (by kernel_rfl) (by kernel_rfl) (sp8Get (by omega) he4) ?_
   refine At.a 2 ?_
   refine At.sI 126 (e4 + e3) (by omega) ?_
   refine At.bits (t := 3) (u := 3) (d := 127) (op := .and) (x := .tmp 126) (y := .const (.int .i64 4294967295)) (kd := .i64) (a := e4 + e3) (b := 4294967295) ((e4 + e3) % 4294967296) (by kernel_rfl) (by kernel_rfl) (by kernel_rfl) (by kernel_rfl) (andM 32 4294967296 _ _ (by decide) (by decide) (by decide)) ?_
   refine At.idxArr (t := 77) (d := 128) (i := 102) (len := 8) (x := .tmp 2) (y := .tmp 121) (kd := .i64) (n := (i : Int)) (by kernel_rfl) (by kernel_rfl) (by kernel_rfl) (by kernel_rfl) (by omega) (by omega) ?_
   refine At.stB (t := 3) (i := 102) (off := i) (tb := 77) (m := 1) (x := .tmp 128) (y := .tmp 127) (cs := (sp8 q)) (ys := [.int .i64 ((e4 + e3) % 4294967296)]) (v := .int .i64 ((e4 + e3) % 4294967296)) (sp8 (q.set i ((e4 + e3) % 4294967296))) (by kernel_rfl) (by kernel_rfl) (by kernel_rfl) (by kernel_rfl) (by kernel_rfl) (by kernel_rfl) rfl (sp8Set (by omega) (by omega)) ?_
   refine At.done rfl ?_
   refine AW.g ?_
   refine At.a 1 ?_
   refine At.sI 129 ((i : Int) + 1) (by omega) ?_
   refine At.z 1 ?_
   exact ⟨(i + 1, (q.set i ((e4 + e3) % 4294967296))), ⟨by omega, add_set3 hq hh (by omega) he4 he3, by rw [List.length_set]; exact hql, set_all hqa _⟩, (by simp only; omega), Sub.o [(102, 102), (104, 104)] [false, false, true, false, true, false, false, false, false, false, false, false, false, false, false, false, false, false, false, false, false, false, false, false, false, false, false, false, false, false, false, false, false, false, false, false, false, false, false, false, false, false, false, false, false, false, false, false, false, false, false, false, false, false, false, false, false, false, false, false, false, false, false, false, false, false, false, false, false, false, false, false, false, false, false, false, false, false, false, false, false, false, false, false, false, false, false, false, false, false, false, false, false, false, false, false, false, false, false, false, false, false, false, false, false, false, false, false, false, false, false, false, false, false, false, false, true, true]⟩
 refine AW.exit ?_
 refine AW.q 2 ?_
 refine AW.ret ?_
 refine ⟨_, Sub.refl _ _, ?_⟩
 refine KF.conv (fun w => .agg (sp8 w)) (fun w => []) (show (q) = (roundI h b) from by rw [hq, addIn_end hh rfl (by omega)]; exact (round_of (by rw [hR, List.drop_of_length_le (l := keysI) (by rw [keysI_len]; omega)]; rfl)).symm) ?_
 exact KF.n []
end Go.Proofs.Ytdpcdcogbmkffaa
