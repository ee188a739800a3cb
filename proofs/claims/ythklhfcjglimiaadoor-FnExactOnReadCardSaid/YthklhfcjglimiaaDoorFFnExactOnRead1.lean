/- The contracts of the functions that FnExactOnRead reaches (each: what it answers, said over values), printed by a program of this session (wip/sy/g/gen.py). -/
import Derived.Test.YthklhfcjglimiaaDoorSXOnReadG3
set_option linter.unusedVariables false
set_option linter.unusedSimpArgs false
set_option maxRecDepth 100000
set_option maxHeartbeats 4000000
namespace Go.Proofs.YthklhfcjglimiaaDoor
open Go Go.Sy Go.Proofs Go.Proofs.YthklhfcjglimiaaDoor.OnRd
theorem Tryd_mix : Tryd.prog.follows .mixedOrders = true := by kernel_rfl
theorem spec_l1In_spec  (x : Int) (lo : Int) (hi : Int) : FnSpec Tryd.prog 21 [.int .i64 x, .int .i64 lo, .int .i64 hi] [] (.bool (inR x lo hi)) [] := by
 refine FnSpec.of 15 Tryd.func21 rfl Tryd.ntmps21 (by simp) (AW.weakK ?_)
 refine AW.q 1 ?_
 refine AW.r ?_
 refine At.a 4 ?_
 by_cases h1 : x ≥ lo
 · refine At.sB 10 _ _ (sayT h1) ?_
   refine At.z 5 ?_
   refine AW.ret ?_
   refine ⟨_, Sub.refl _ _, ?_⟩
   refine KF.conv (fun w => .bool w) (fun w => []) (show (decide (x ≤ hi)) = (inR x lo hi) from by simp [inR, *]) ?_
   exact KF.n []
 refine At.sB 10 _ _ (sayF h1) ?_
 refine At.z 5 ?_
 refine AW.ret ?_
 refine ⟨_, Sub.refl _ _, ?_⟩
 refine KF.conv (fun w => .bool w) (fun w => []) (show (false) = (inR x lo hi) from by simp [inR, *]) ?_
 exact KF.n []
theorem spec_l12Num_spec  (x : Int) (hx : 0 - 100000 ≤ x ∧ x ≤ 100000) : FnSpec Tryd.prog 26 [.int .i64 x] [] (.str (strOf (Lib.itoa x))) [] := by
 have hb0 : (⟨#[45]⟩ : ByteArray).size = 1 := rfl
 refine FnSpec.of 26 Tryd.func26 rfl Tryd.ntmps26 (by simp) (AW.weakK ?_)
 refine AW.q 1 ?_
 refine AW.seq ?_
 refine AW.q 2 ?_
 refine AW.cD (x < 0) (fun h1 => ?_) (fun h1 => ?_)
 · refine AW.r ?_
   refine At.a 2 ?_
   refine At.sI 6 (0 - x) (by omega) ?_
   refine At.c (spec_l12Num_spec  (0 - x) (by omega)) Tryd.call26 true [] [] [] trivial ?_
   refine At.cat (t := 9) (u := 9) (d := 8) (x := .const (.string ⟨#[45]⟩)) (y := .tmp 7) (a := (⟨#[45]⟩ : ByteArray)) (b := strOf (Lib.itoa (0 - x))) (by kernel_rfl) (by kernel_rfl) (by kernel_rfl) (by kernel_rfl) (by simp only [cat_size, strOf_size, List.length_cons, List.length_nil]; first | omega | (have := Lib.itoa_length_le (0 - x) (by omega) (by omega); omega) | (have := Lib.itoa_length_le (x / 10) (by omega) (by omega); omega)) ?_
   refine At.z 1 ?_
   refine AW.ret ?_
   refine ⟨_, Sub.refl _ _, ?_⟩
   refine KF.conv (fun w => .str w) (fun w => []) (show ((⟨#[45]⟩ : ByteArray) ++ (strOf (Lib.itoa (0 - x)))) = (strOf (Lib.itoa x)) from by exact num_neg (by omega)) ?_
   exact KF.n []
 refine AW.skip ?_
 refine AW.seq ?_
 refine AW.q 2 ?_
 refine AW.cD (x < 10) (fun h2 => ?_) (fun h2 => ?_)
 · refine AW.r ?_
   refine At.a 2 ?_
   refine At.sI 12 (48 + x) (by omega) ?_
   refine At.conv (s := 3) (t := 5) (d := 13) (x := .tmp 12) (kd := .i64) (kd' := .u8) (a := 48 + x) (.int .u8 ((u8Of (48 + x)).toNat : Int)) (by kernel_rfl) (by kernel_rfl) (by kernel_rfl) (by kernel_rfl) (sayByte _) ?_
   refine At.ll 14 5 1 114 (0, 6) (([(u8Of (48 + x))]).map encU8) ?_
   refine At.b2s (s := 28) (t := 9) (e := 5) (d := 15) (x := .tmp 14) (T := .ref 114) ([(u8Of (48 + x))]) [] (by kernel_rfl) (by kernel_rfl) (by kernel_rfl) (by kernel_rfl) ⟨by kernel_rfl, .inl ⟨rfl, (allP_encU8 _)⟩⟩ ?_
   refine At.z 1 ?_
   refine AW.ret ?_
   refine ⟨_, Sub.refl _ _, ?_⟩
   refine KF.conv (fun w => .str w) (fun w => []) (show (strOf ([(u8Of (48 + x))])) = (strOf (Lib.itoa x)) from by exact num_one (by omega) (by omega)) ?_
   exact KF.n []
 refine AW.skip ?_
 refine AW.seq ?_
 refine AW.gD Tryd_mix ?_
 refine At.a 1 ?_
 refine At.div (t := 3) (u := 3) (d := 17) (op := .quo) (x := .tmp 16) (y := .const (.int .i64 10)) (kd := .i64) (a := x) (b := 10) (by kernel_rfl) (by kernel_rfl) (by kernel_rfl) (by kernel_rfl) (by omega) (.int .i64 (IntKind.i64.wrap (x.tdiv 10))) (.inl ⟨rfl, rfl⟩) ?_
 refine At.say 17 (.int .i64 (IntKind.i64.wrap (x.tdiv 10))) (.int .i64 (x / 10)) (by kernel_rfl) (sayQuo (by omega) (by omega) (by omega)) ?_
 refine At.c (spec_l12Num_spec  (x / 10) (by omega)) Tryd.call26 true [] [] [] trivial ?_
 refine At.a 1 ?_
 refine At.div (t := 3) (u := 3) (d := 20) (op := .rem) (x := .tmp 19) (y := .const (.int .i64 10)) (kd := .i64) (a := x) (b := 10) (by kernel_rfl) (by kernel_rfl) (by kernel_rfl) (by kernel_rfl) (by omega) (.int .i64 (x.tmod 10)) (.inr ⟨rfl, rfl⟩) ?_
 refine At.say 20 (.int .i64 (x.tmod 10)) (.int .i64 (x % 10)) (by kernel_rfl) (sayRem (by omega)) ?_
 refine At.a 1 ?_
 refine At.sI 21 (48 + (x % 10)) (by omega) ?_
 refine At.conv (s := 3) (t := 5) (d := 22) (x := .tmp 21) (kd := .i64) (kd' := .u8) (a := 48 + (x % 10)) (.int .u8 ((u8Of (48 + (x % 10))).toNat : Int)) (by kernel_rfl) (by kernel_rfl) (by kernel_rfl) (by kernel_rfl) (sayByte _) ?_
 refine At.ll 23 5 1 123 (0, 6) (([(u8Of (48 + (x % 10)))]).map encU8) ?_
 refine At.b2s (s := 28) (t := 9) (e := 5) (d := 24) (x := .tmp 23) (T := .ref 123) ([(u8Of (48 + (x % 10)))]) [] (by kernel_rfl) (by kernel_rfl) (by kernel_rfl) (by kernel_rfl) ⟨by kernel_rfl, .inl ⟨rfl, (allP_encU8 _)⟩⟩ ?_
 refine At.cat (t := 9) (u := 9) (d := 25) (x := .tmp 18) (y := .tmp 24) (a := strOf (Lib.itoa (x / 10))) (b := strOf ([(u8Of (48 + (x % 10)))])) (by kernel_rfl) (by kernel_rfl) (by kernel_rfl) (by kernel_rfl) (by simp only [cat_size, strOf_size, List.length_cons, List.length_nil]; first | omega | (have := Lib.itoa_length_le (0 - x) (by omega) (by omega); omega) | (have := Lib.itoa_length_le (x / 10) (by omega) (by omega); omega)) ?_
 refine At.zD 1 ?_
 refine AW.ret ?_
 refine ⟨_, Sub.refl _ _, ?_⟩
 refine KF.conv (fun w => .str w) (fun w => []) (show ((strOf (Lib.itoa (x / 10))) ++ (strOf ([(u8Of (48 + (x % 10)))]))) = (strOf (Lib.itoa x)) from by exact num_big (by omega) (by omega)) ?_
 exact KF.n []
termination_by (2 * x.natAbs + (1 - x).toNat)
decreasing_by all_goals omega
def K_spec_l12Read (rs : List ResultVar) (s : ByteArray) (w0_ : Int) (w1_ : Bool) : Exit → Sg → Prop := KF Tryd.prog 0 rs (.tup [.int .i64 w0_, .bool w1_]) []
theorem spec_l12Read_spec  (s : ByteArray) (hs : s.size ≤ 1048576) : FnSpec Tryd.prog 14 [.str s] [] (.tup [.int .i64 ((rd4 s.data.toList).1), .bool ((rd4 s.data.toList).2)]) [] := by
 have hdl : s.data.toList.length = s.size := Array.length_toList
 refine FnSpec.of 55 Tryd.func14 rfl Tryd.ntmps14 (by simp) (AW.weakK ?_)
 refine AW.q 2 ?_
 refine AW.q 1 ?_
 refine AW.seq ?_
 refine AW.r ?_
 refine At.a 4 ?_
 by_cases h1 : (s.size : Int) > 0
 · refine At.sB 10 _ _ (sayT h1) ?_
   refine At.a 1 ?_
   refine Exists.elim (show ∃ e, s.data[0]? = some e from ⟨_, Array.getElem?_eq_getElem (by show _ < s.size; omega)⟩) fun e1 he1 => ?_
   have hbe1 := UInt8.toNat_lt e1
   have hle1 := strGet he1
   refine At.idxStr (t := 9) (d := 12) (x := .tmp 11) (y := .const (.int .i64 0)) (s := s) (kd := .i64) (i := 0) e1 (by kernel_rfl) (by kernel_rfl) (by kernel_rfl) (by kernel_rfl) (by omega) he1 ?_
   refine At.z 2 ?_
   refine AW.cE (e1.toNat : Int) (45 : Int) (fun h2 => ?_) (fun h2 => ?_)
   · refine AW.gq 1 ?_
     refine AW.seq ?_
     refine AW.r ?_
     refine At.a 4 ?_
     refine At.sI 18 ((s.size : Int) - 1) (by omega) ?_
     refine At.c (spec_l1In_spec  ((s.size : Int) - 1) 1 4 ) Tryd.call21 true [] [] [] trivial ?_
     refine At.z 1 ?_
     refine AW.cNB (inR ((s.size : Int) - 1) 1 4) (fun h3 => ?_) (fun h3 => ?_)
     · refine AW.q 2 ?_
       exact AW.ret (rf (k2 (K_spec_l12Read _ s) (show (0) = ((rd4 s.data.toList).1) from by rw [rd4_no (by first | exact minus_1 (strGet he1) (by assumption) | exact minus_0 (strGet he1) (by assumption) | exact minus_n (by assumption)) (by assumption)]) (show (false) = ((rd4 s.data.toList).2) from by rw [rd4_no (by first | exact minus_1 (strGet he1) (by assumption) | exact minus_0 (strGet he1) (by assumption) | exact minus_n (by assumption)) (by assumption)]) (KF.n [])))
     have h3i := inR_iff.1 h3
     have hin := inR_iff.1 h3
     refine AW.skip ?_
     refine AW.q 1 ?_
     refine AW.seq ?_
     refine AW.q 2 ?_
     refine AW.block ?_
     refine AW.loopW (fun (x : Nat × Int) => match x with | (k, x) => Go.Sy.mk [.str s, .un, .un, .un, .int .i64 1, .int .i64 x, .int .i64 (k : Int)] []) (fun (x : Nat × Int) => match x with | (k, x) => (1 ≤ k ∧ k ≤ s.size) ∧ (0 ≤ x ∧ x < 10 ^ (k - 1)) ∧ dgo 0 (s.data.toList.drop 1) = dgo x (s.data.toList.drop k)) (fun (x : Nat × Int) => match x with | (k, x) => s.size - k) (1, 0) ⟨by omega, by simp, rfl⟩ (Sub.o [] [true, false, false, false, true, true, true]) ?_
     rintro ⟨k, x⟩ ⟨hk, hx, hR⟩
     have hpw := pow_four (i := k - 1) (by omega)
     refine AW.seq ?_
     refine AW.q 4 ?_
     refine AW.cD ((k : Int) < (s.size : Int)) (fun h4 => ?_) (fun h4 => ?_)
     · refine AW.skip ?_
       refine AW.seq ?_
       refine AW.block ?_
       refine AW.seq ?_
       refine AW.r ?_
       refine At.a 2 ?_
       refine Exists.elim (show ∃ e, s.data[k]? = some e from ⟨_, Array.getElem?_eq_getElem (by show _ < s.size; omega)⟩) fun e2 he2 => ?_
       have hbe2 := UInt8.toNat_lt e2
       have hle2 := strGet he2
       refine At.idxStr (t := 9) (d := 30) (x := .tmp 28) (y := .tmp 29) (s := s) (kd := .i64) (i := (k : Int)) e2 (by kernel_rfl) (by kernel_rfl) (by kernel_rfl) (by kernel_rfl) (by omega) he2 ?_
       refine At.a 2 ?_
       by_cases h5 : (e2.toNat : Int) < 48
       · refine At.sB 32 _ _ (sayT h5) ?_
         refine At.z 5 ?_
         refine AW.cond true (by kernel_rfl) (fun _ => ?_) (fun h => by cases h)
         refine AW.q 2 ?_
         exact AW.ret (rf (k2 (K_spec_l12Read _ s) (show (0) = ((rd4 s.data.toList).1) from by rw [rd4_bad (by first | exact minus_1 (strGet he1) (by assumption) | exact minus_0 (strGet he1) (by assumption) | exact minus_n (by assumption)) (by assumption) (hR.trans (dgo_bad (by assumption) (by omega)))]) (show (false) = ((rd4 s.data.toList).2) from by rw [rd4_bad (by first | exact minus_1 (strGet he1) (by assumption) | exact minus_0 (strGet he1) (by assumption) | exact minus_n (by assumption)) (by assumption) (hR.trans (dgo_bad (by assumption) (by omega)))]) (KF.n [])))
       refine At.sB 32 _ _ (sayF h5) ?_
       refine At.a 2 ?_
       refine At.idxStr (t := 9) (d := 35) (x := .tmp 33) (y := .tmp 34) (s := s) (kd := .i64) (i := (k : Int)) e2 (by kernel_rfl) (by kernel_rfl) (by kernel_rfl) (by kernel_rfl) (by omega) he2 ?_
       refine At.z 2 ?_
       refine AW.cD ((e2.toNat : Int) > 57) (fun h6 => ?_) (fun h6 => ?_)
       · refine AW.q 2 ?_
         exact AW.ret (rf (k2 (K_spec_l12Read _ s) (show (0) = ((rd4 s.data.toList).1) from by rw [rd4_bad (by first | exact minus_1 (strGet he1) (by assumption) | exact minus_0 (strGet he1) (by assumption) | exact minus_n (by assumption)) (by assumption) (hR.trans (dgo_bad (by assumption) (by omega)))]) (show (false) = ((rd4 s.data.toList).2) from by rw [rd4_bad (by first | exact minus_1 (strGet he1) (by assumption) | exact minus_0 (strGet he1) (by assumption) | exact minus_n (by assumption)) (by assumption) (hR.trans (dgo_bad (by assumption) (by omega)))]) (KF.n [])))
       refine AW.skip ?_
       refine AW.g ?_
       refine At.a 2 ?_
       refine At.sI 39 (10 * x) (by omega) ?_
       refine At.a 2 ?_
       refine At.idxStr (t := 9) (d := 42) (x := .tmp 40) (y := .tmp 41) (s := s) (kd := .i64) (i := (k : Int)) e2 (by kernel_rfl) (by kernel_rfl) (by kernel_rfl) (by kernel_rfl) (by omega) he2 ?_
       refine At.conv (s := 5) (t := 3) (d := 43) (x := .tmp 42) (kd := .u8) (kd' := .i64) (a := (e2.toNat : Int)) (.int .i64 (e2.toNat : Int)) (by kernel_rfl) (by kernel_rfl) (by kernel_rfl) (by kernel_rfl) (sayI _ (by have := UInt8.toNat_lt e2; omega)) ?_
       refine At.a 1 ?_
       refine At.sI 44 ((10 * x) + (e2.toNat : Int)) (by omega) ?_
       refine At.a 1 ?_
       refine At.sI 45 (((10 * x) + (e2.toNat : Int)) - 48) (by omega) ?_
       refine At.z 1 ?_
       refine AW.g ?_
       refine At.a 2 ?_
       refine At.sI 27 ((k : Int) + 1) (by omega) ?_
       refine At.z 1 ?_
       exact ⟨(k + 1, (((10 * x) + (e2.toNat : Int)) - 48)), ⟨by omega, by rw [show k + 1 - 1 = (k - 1) + 1 from by omega, Int.pow_succ]; omega, by rw [hR]; exact dgo_step (by assumption) (by omega)⟩, (by simp only; omega), Sub.o [] [true, false, false, false, true, true, true]⟩
     refine AW.exit ?_
     refine AW.seq ?_
     refine AW.q 2 ?_
     refine AW.cE (1 : Int) (1 : Int) (fun h7 => ?_) (fun h7 => ?_)
     · refine AW.g ?_
       refine At.a 2 ?_
       refine At.sI 49 (0 - x) (by omega) ?_
       refine At.z 1 ?_
       refine AW.seq ?_
       refine AW.r ?_
       refine At.a 1 ?_
       refine At.c (spec_l12Num_spec  (0 - x) (by omega)) Tryd.call26 true [] [] [] trivial ?_
       refine At.z 2 ?_
       refine AW.cNE ((strOf (Lib.itoa (0 - x))).toList) (s.toList) (fun h8 => ?_) (fun h8 => ?_)
       · refine AW.q 2 ?_
         exact AW.ret (rf (k2 (K_spec_l12Read _ s) (show (0) = ((rd4 s.data.toList).1) from by rw [rd4_ne (by first | exact minus_1 (strGet he1) (by assumption) | exact minus_0 (strGet he1) (by assumption) | exact minus_n (by assumption)) (by assumption) (hR.trans (dgo_end (by omega))) (by first | exact if_pos rfl | exact if_neg (by decide)) (by assumption)]) (show (false) = ((rd4 s.data.toList).2) from by rw [rd4_ne (by first | exact minus_1 (strGet he1) (by assumption) | exact minus_0 (strGet he1) (by assumption) | exact minus_n (by assumption)) (by assumption) (hR.trans (dgo_end (by omega))) (by first | exact if_pos rfl | exact if_neg (by decide)) (by assumption)]) (KF.n [])))
       refine AW.skip ?_
       refine AW.q 3 ?_
       exact AW.ret (rf (k2 (K_spec_l12Read _ s) (show (0 - x) = ((rd4 s.data.toList).1) from by rw [rd4_ok (by first | exact minus_1 (strGet he1) (by assumption) | exact minus_0 (strGet he1) (by assumption) | exact minus_n (by assumption)) (by assumption) (hR.trans (dgo_end (by omega))) (by first | exact if_pos rfl | exact if_neg (by decide)) (by assumption)]) (show (true) = ((rd4 s.data.toList).2) from by rw [rd4_ok (by first | exact minus_1 (strGet he1) (by assumption) | exact minus_0 (strGet he1) (by assumption) | exact minus_n (by assumption)) (by assumption) (hR.trans (dgo_end (by omega))) (by first | exact if_pos rfl | exact if_neg (by decide)) (by assumption)]) (KF.n [])))
     refine AW.skip ?_
     refine AW.seq ?_
     refine AW.r ?_
     refine At.a 1 ?_
     refine At.c (spec_l12Num_spec  x (by omega)) Tryd.call26 true [] [] [] trivial ?_
     refine At.z 2 ?_
     refine AW.cNE ((strOf (Lib.itoa x)).toList) (s.toList) (fun h9 => ?_) (fun h9 => ?_)
     · refine AW.q 2 ?_
       exact AW.ret (rf (k2 (K_spec_l12Read _ s) (show (0) = ((rd4 s.data.toList).1) from by exfalso; omega) (show (false) = ((rd4 s.data.toList).2) from by exfalso; omega) (KF.n [])))
     refine AW.skip ?_
     refine AW.q 3 ?_
     exact AW.ret (rf (k2 (K_spec_l12Read _ s) (show (x) = ((rd4 s.data.toList).1) from by exfalso; omega) (show (true) = ((rd4 s.data.toList).2) from by exfalso; omega) (KF.n [])))
   refine AW.skip ?_
   refine AW.seq ?_
   refine AW.r ?_
   refine At.a 4 ?_
   refine At.sI 18 ((s.size : Int) - 0) (by omega) ?_
   refine At.c (spec_l1In_spec  ((s.size : Int) - 0) 1 4 ) Tryd.call21 true [] [] [] trivial ?_
   refine At.z 1 ?_
   refine AW.cNB (inR ((s.size : Int) - 0) 1 4) (fun h10 => ?_) (fun h10 => ?_)
   · refine AW.q 2 ?_
     exact AW.ret (rf (k2 (K_spec_l12Read _ s) (show (0) = ((rd4 s.data.toList).1) from by rw [rd4_no (by first | exact minus_1 (strGet he1) (by assumption) | exact minus_0 (strGet he1) (by assumption) | exact minus_n (by assumption)) (by assumption)]) (show (false) = ((rd4 s.data.toList).2) from by rw [rd4_no (by first | exact minus_1 (strGet he1) (by assumption) | exact minus_0 (strGet he1) (by assumption) | exact minus_n (by assumption)) (by assumption)]) (KF.n [])))
   have h10i := inR_iff.1 h10
   have hin := inR_iff.1 h10
   refine AW.skip ?_
   refine AW.q 1 ?_
   refine AW.seq ?_
   refine AW.q 2 ?_
   refine AW.block ?_
   refine AW.loopW (fun (x : Nat × Int) => match x with | (k, x) => Go.Sy.mk [.str s, .un, .un, .un, .int .i64 0, .int .i64 x, .int .i64 (k : Int)] []) (fun (x : Nat × Int) => match x with | (k, x) => (0 ≤ k ∧ k ≤ s.size) ∧ (0 ≤ x ∧ x < 10 ^ (k - 0)) ∧ dgo 0 (s.data.toList.drop 0) = dgo x (s.data.toList.drop k)) (fun (x : Nat × Int) => match x with | (k, x) => s.size - k) (0, 0) ⟨by omega, by simp, rfl⟩ (Sub.o [] [true, false, false, false, true, true, true]) ?_
   rintro ⟨k, x⟩ ⟨hk, hx, hR⟩
   have hpw := pow_four (i := k - 0) (by omega)
   refine AW.seq ?_
   refine AW.q 4 ?_
   refine AW.cD ((k : Int) < (s.size : Int)) (fun h11 => ?_) (fun h11 => ?_)
   · refine AW.skip ?_
     refine AW.seq ?_
     refine AW.block ?_
     refine AW.seq ?_
     refine AW.r ?_
     refine At.a 2 ?_
     refine Exists.elim (show ∃ e, s.data[k]? = some e from ⟨_, Array.getElem?_eq_getElem (by show _ < s.size; omega)⟩) fun e3 he3 => ?_
     have hbe3 := UInt8.toNat_lt e3
     have hle3 := strGet he3
     refine At.idxStr (t := 9) (d := 30) (x := .tmp 28) (y := .tmp 29) (s := s) (kd := .i64) (i := (k : Int)) e3 (by kernel_rfl) (by kernel_rfl) (by kernel_rfl) (by kernel_rfl) (by omega) he3 ?_
     refine At.a 2 ?_
     by_cases h12 : (e3.toNat : Int) < 48
     · refine At.sB 32 _ _ (sayT h12) ?_
       refine At.z 5 ?_
       refine AW.cond true (by kernel_rfl) (fun _ => ?_) (fun h => by cases h)
       refine AW.q 2 ?_
       exact AW.ret (rf (k2 (K_spec_l12Read _ s) (show (0) = ((rd4 s.data.toList).1) from by rw [rd4_bad (by first | exact minus_1 (strGet he1) (by assumption) | exact minus_0 (strGet he1) (by assumption) | exact minus_n (by assumption)) (by assumption) (hR.trans (dgo_bad (by assumption) (by omega)))]) (show (false) = ((rd4 s.data.toList).2) from by rw [rd4_bad (by first | exact minus_1 (strGet he1) (by assumption) | exact minus_0 (strGet he1) (by assumption) | exact minus_n (by assumption)) (by assumption) (hR.trans (dgo_bad (by assumption) (by omega)))]) (KF.n [])))
     refine At.sB 32 _ _ (sayF h12) ?_
     refine At.a 2 ?_
     refine At.idxStr (t := 9) (d := 35) (x := .tmp 33) (y := .tmp 34) (s := s) (kd := .i64) (i := (k : Int)) e3 (by kernel_rfl) (by kernel_rfl) (by kernel_rfl) (by kernel_rfl) (by omega) he3 ?_
     refine At.z 2 ?_
     refine AW.cD ((e3.toNat : Int) > 57) (fun h13 => ?_) (fun h13 => ?_)
     · refine AW.q 2 ?_
       exact AW.ret (rf (k2 (K_spec_l12Read _ s) (show (0) = ((rd4 s.data.toList).1) from by rw [rd4_bad (by first | exact minus_1 (strGet he1) (by assumption) | exact minus_0 (strGet he1) (by assumption) | exact minus_n (by assumption)) (by assumption) (hR.trans (dgo_bad (by assumption) (by omega)))]) (show (false) = ((rd4 s.data.toList).2) from by rw [rd4_bad (by first | exact minus_1 (strGet he1) (by assumption) | exact minus_0 (strGet he1) (by assumption) | exact minus_n (by assumption)) (by assumption) (hR.trans (dgo_bad (by assumption) (by omega)))]) (KF.n [])))
     refine AW.skip ?_
     refine AW.g ?_
     refine At.a 2 ?_
     refine At.sI 39 (10 * x) (by omega) ?_
     refine At.a 2 ?_
     refine At.idxStr (t := 9) (d := 42) (x := .tmp 40) (y := .tmp 41) (s := s) (kd := .i64) (i := (k : Int)) e3 (by kernel_rfl) (by kernel_rfl) (by kernel_rfl) (by kernel_rfl) (by omega) he3 ?_
     refine At.conv (s := 5) (t := 3) (d := 43) (x := .tmp 42) (kd := .u8) (kd' := .i64) (a := (e3.toNat : Int)) (.int .i64 (e3.toNat : Int)) (by kernel_rfl) (by kernel_rfl) (by kernel_rfl) (by kernel_rfl) (sayI _ (by have := UInt8.toNat_lt e3; omega)) ?_
     refine At.a 1 ?_
     refine At.sI 44 ((10 * x) + (e3.toNat : Int)) (by omega) ?_
     refine At.a 1 ?_
     refine At.sI 45 (((10 * x) + (e3.toNat : Int)) - 48) (by omega) ?_
     refine At.z 1 ?_
     refine AW.g ?_
     refine At.a 2 ?_
     refine At.sI 27 ((k : Int) + 1) (by omega) ?_
     refine At.z 1 ?_
     exact ⟨(k + 1, (((10 * x) + (e3.toNat : Int)) - 48)), ⟨by omega, by rw [show k + 1 - 0 = (k - 0) + 1 from by omega, Int.pow_succ]; omega, by rw [hR]; exact dgo_step (by assumption) (by omega)⟩, (by simp only; omega), Sub.o [] [true, false, false, false, true, true, true]⟩
   refine AW.exit ?_
   refine AW.seq ?_
   refine AW.q 2 ?_
   refine AW.cE (0 : Int) (1 : Int) (fun h14 => ?_) (fun h14 => ?_)
   · refine AW.g ?_
     refine At.a 2 ?_
     refine At.sI 49 (0 - x) (by omega) ?_
     refine At.z 1 ?_
     refine AW.seq ?_
     refine AW.r ?_
     refine At.a 1 ?_
     refine At.c (spec_l12Num_spec  (0 - x) (by omega)) Tryd.call26 true [] [] [] trivial ?_
     refine At.z 2 ?_
     refine AW.cNE ((strOf (Lib.itoa (0 - x))).toList) (s.toList) (fun h15 => ?_) (fun h15 => ?_)
     · refine AW.q 2 ?_
       exact AW.ret (rf (k2 (K_spec_l12Read _ s) (show (0) = ((rd4 s.data.toList).1) from by exfalso; omega) (show (false) = ((rd4 s.data.toList).2) from by exfalso; omega) (KF.n [])))
     refine AW.skip ?_
     refine AW.q 3 ?_
     exact AW.ret (rf (k2 (K_spec_l12Read _ s) (show (0 - x) = ((rd4 s.data.toList).1) from by exfalso; omega) (show (true) = ((rd4 s.data.toList).2) from by exfalso; omega) (KF.n [])))
   refine AW.skip ?_
   refine AW.seq ?_
   refine AW.r ?_
   refine At.a 1 ?_
   refine At.c (spec_l12Num_spec  x (by omega)) Tryd.call26 true [] [] [] trivial ?_
   refine At.z 2 ?_
   refine AW.cNE ((strOf (Lib.itoa x)).toList) (s.toList) (fun h16 => ?_) (fun h16 => ?_)
   · refine AW.q 2 ?_
     exact AW.ret (rf (k2 (K_spec_l12Read _ s) (show (0) = ((rd4 s.data.toList).1) from by rw [rd4_ne (by first | exact minus_1 (strGet he1) (by assumption) | exact minus_0 (strGet he1) (by assumption) | exact minus_n (by assumption)) (by assumption) (hR.trans (dgo_end (by omega))) (by first | exact if_pos rfl | exact if_neg (by decide)) (by assumption)]) (show (false) = ((rd4 s.data.toList).2) from by rw [rd4_ne (by first | exact minus_1 (strGet he1) (by assumption) | exact minus_0 (strGet he1) (by assumption) | exact minus_n (by assumption)) (by assumption) (hR.trans (dgo_end (by omega))) (by first | exact if_pos rfl | exact if_neg (by decide)) (by assumption)]) (KF.n [])))
   refine AW.skip ?_
   refine AW.q 3 ?_
   exact AW.ret (rf (k2 (K_spec_l12Read _ s) (show (x) = ((rd4 s.data.toList).1) from by rw [rd4_ok (by first | exact minus_1 (strGet he1) (by assumption) | exact minus_0 (strGet he1) (by assumption) | exact minus_n (by assumption)) (by assumption) (hR.trans (dgo_end (by omega))) (by first | exact if_pos rfl | exact if_neg (by decide)) (by assumption)]) (show (true) = ((rd4 s.data.toList).2) from by rw [rd4_ok (by first | exact minus_1 (strGet he1) (by assumption) | exact minus_0 (strGet he1) (by assumption) | exact minus_n (by assumption)) (by assumption) (hR.trans (dgo_end (by omega))) (by first | exact if_pos rfl | exact if_neg (by decide)) (by assumption)]) (KF.n [])))
 refine At.sB 10 _ _ (sayF h1) ?_
 refine At.z 4 ?_
 refine AW.cond false (by kernel_rfl) (fun h => by cases h) (fun _ => ?_)
 refine AW.skip ?_
 refine AW.seq ?_
 refine AW.r ?_
 refine At.a 4 ?_
 refine At.sI 18 ((s.size : Int) - 0) (by omega) ?_
 refine At.c (spec_l1In_spec  ((s.size : Int) - 0) 1 4 ) Tryd.call21 true [] [] [] trivial ?_
 refine At.z 1 ?_
 refine AW.cNB (inR ((s.size : Int) - 0) 1 4) (fun h17 => ?_) (fun h17 => ?_)
 · refine AW.q 2 ?_
   exact AW.ret (rf (k2 (K_spec_l12Read _ s) (show (0) = ((rd4 s.data.toList).1) from by rw [rd4_no (by first | exact minus_1 (strGet he1) (by assumption) | exact minus_0 (strGet he1) (by assumption) | exact minus_n (by assumption)) (by assumption)]) (show (false) = ((rd4 s.data.toList).2) from by rw [rd4_no (by first | exact minus_1 (strGet he1) (by assumption) | exact minus_0 (strGet he1) (by assumption) | exact minus_n (by assumption)) (by assumption)]) (KF.n [])))
 have h17i := inR_iff.1 h17
 have hin := inR_iff.1 h17
 refine AW.skip ?_
 refine AW.q 1 ?_
 refine AW.seq ?_
 refine AW.q 2 ?_
 refine AW.block ?_
 refine AW.loopW (fun (x : Nat × Int) => match x with | (k, x) => Go.Sy.mk [.str s, .un, .un, .un, .int .i64 0, .int .i64 x, .int .i64 (k : Int)] []) (fun (x : Nat × Int) => match x with | (k, x) => (0 ≤ k ∧ k ≤ s.size) ∧ (0 ≤ x ∧ x < 10 ^ (k - 0)) ∧ dgo 0 (s.data.toList.drop 0) = dgo x (s.data.toList.drop k)) (fun (x : Nat × Int) => match x with | (k, x) => s.size - k) (0, 0) ⟨by omega, by simp, rfl⟩ (Sub.o [] [true, false, false, false, true, true, true]) ?_
 rintro ⟨k, x⟩ ⟨hk, hx, hR⟩
 have hpw := pow_four (i := k - 0) (by omega)
 refine AW.seq ?_
 refine AW.q 4 ?_
 refine AW.cD ((k : Int) < (s.size : Int)) (fun h18 => ?_) (fun h18 => ?_)
 · refine AW.skip ?_
   refine AW.seq ?_
   refine AW.block ?_
   refine AW.seq ?_
   refine AW.r ?_
   refine At.a 2 ?_
   refine Exists.elim (show ∃ e, s.data[k]? = some e from ⟨_, Array.getElem?_eq_getElem (by show _ < s.size; omega)⟩) fun e4 he4 => ?_
   have hbe4 := UInt8.toNat_lt e4
   have hle4 := strGet he4
   refine At.idxStr (t := 9) (d := 30) (x := .tmp 28) (y := .tmp 29) (s := s) (kd := .i64) (i := (k : Int)) e4 (by kernel_rfl) (by kernel_rfl) (by kernel_rfl) (by kernel_rfl) (by omega) he4 ?_
   refine At.a 2 ?_
   by_cases h19 : (e4.toNat : Int) < 48
   · refine At.sB 32 _ _ (sayT h19) ?_
     refine At.z 5 ?_
     refine AW.cond true (by kernel_rfl) (fun _ => ?_) (fun h => by cases h)
     refine AW.q 2 ?_
     exact AW.ret (rf (k2 (K_spec_l12Read _ s) (show (0) = ((rd4 s.data.toList).1) from by exfalso; omega) (show (false) = ((rd4 s.data.toList).2) from by exfalso; omega) (KF.n [])))
   refine At.sB 32 _ _ (sayF h19) ?_
   refine At.a 2 ?_
   refine At.idxStr (t := 9) (d := 35) (x := .tmp 33) (y := .tmp 34) (s := s) (kd := .i64) (i := (k : Int)) e4 (by kernel_rfl) (by kernel_rfl) (by kernel_rfl) (by kernel_rfl) (by omega) he4 ?_
   refine At.z 2 ?_
   refine AW.cD ((e4.toNat : Int) > 57) (fun h20 => ?_) (fun h20 => ?_)
   · refine AW.q 2 ?_
     exact AW.ret (rf (k2 (K_spec_l12Read _ s) (show (0) = ((rd4 s.data.toList).1) from by exfalso; omega) (show (false) = ((rd4 s.data.toList).2) from by exfalso; omega) (KF.n [])))
   refine AW.skip ?_
   refine AW.g ?_
   refine At.a 2 ?_
   refine At.sI 39 (10 * x) (by omega) ?_
   refine At.a 2 ?_
   refine At.idxStr (t := 9) (d := 42) (x := .tmp 40) (y := .tmp 41) (s := s) (kd := .i64) (i := (k : Int)) e4 (by kernel_rfl) (by kernel_rfl) (by kernel_rfl) (by kernel_rfl) (by omega) he4 ?_
   refine At.conv (s := 5) (t := 3) (d := 43) (x := .tmp 42) (kd := .u8) (kd' := .i64) (a := (e4.toNat : Int)) (.int .i64 (e4.toNat : Int)) (by kernel_rfl) (by kernel_rfl) (by kernel_rfl) (by kernel_rfl) (sayI _ (by have := UInt8.toNat_lt e4; omega)) ?_
   refine At.a 1 ?_
   refine At.sI 44 ((10 * x) + (e4.toNat : Int)) (by omega) ?_
   refine At.a 1 ?_
   refine At.sI 45 (((10 * x) + (e4.toNat : Int)) - 48) (by omega) ?_
   refine At.z 1 ?_
   refine AW.g ?_
   refine At.a 2 ?_
   refine At.sI 27 ((k : Int) + 1) (by omega) ?_
   refine At.z 1 ?_
   exact ⟨(k + 1, (((10 * x) + (e4.toNat : Int)) - 48)), ⟨by omega, by rw [show k + 1 - 0 = (k - 0) + 1 from by omega, Int.pow_succ]; omega, by rw [hR]; exact dgo_step (by assumption) (by omega)⟩, (by simp only; omega), Sub.o [] [true, false, false, false, true, true, true]⟩
 refine AW.exit ?_
 refine AW.seq ?_
 refine AW.q 2 ?_
 refine AW.cE (0 : Int) (1 : Int) (fun h21 => ?_) (fun h21 => ?_)
 · refine AW.g ?_
   refine At.a 2 ?_
   refine At.sI 49 (0 - x) (by omega) ?_
   refine At.z 1 ?_
   refine AW.seq ?_
   refine AW.r ?_
   refine At.a 1 ?_
   refine At.c (spec_l12Num_spec  (0 - x) (by omega)) Tryd.call26 true [] [] [] trivial ?_
   refine At.z 2 ?_
   refine AW.cNE ((strOf (Lib.itoa (0 - x))).toList) (s.toList) (fun h22 => ?_) (fun h22 => ?_)
   · refine AW.q 2 ?_
     exact AW.ret (rf (k2 (K_spec_l12Read _ s) (show (0) = ((rd4 s.data.toList).1) from by exfalso; omega) (show (false) = ((rd4 s.data.toList).2) from by exfalso; omega) (KF.n [])))
   refine AW.skip ?_
   refine AW.q 3 ?_
   exact AW.ret (rf (k2 (K_spec_l12Read _ s) (show (0 - x) = ((rd4 s.data.toList).1) from by exfalso; omega) (show (true) = ((rd4 s.data.toList).2) from by exfalso; omega) (KF.n [])))
 refine AW.skip ?_
 refine AW.seq ?_
 refine AW.r ?_
 refine At.a 1 ?_
 refine At.c (spec_l12Num_spec  x (by omega)) Tryd.call26 true [] [] [] trivial ?_
 refine At.z 2 ?_
 refine AW.cNE ((strOf (Lib.itoa x)).toList) (s.toList) (fun h23 => ?_) (fun h23 => ?_)
 · refine AW.q 2 ?_
   exact AW.ret (rf (k2 (K_spec_l12Read _ s) (show (0) = ((rd4 s.data.toList).1) from by exfalso; omega) (show (false) = ((rd4 s.data.toList).2) from by exfalso; omega) (KF.n [])))
 refine AW.skip ?_
 refine AW.q 3 ?_
 exact AW.ret (rf (k2 (K_spec_l12Read _ s) (show (x) = ((rd4 s.data.toList).1) from by exfalso; omega) (show (true) = ((rd4 s.data.toList).2) from by exfalso; omega) (KF.n [])))
def K_spec_OnOk (rs : List ResultVar) (o : On) (w0_ : Bool) : Exit → Sg → Prop := KF Tryd.prog 0 rs (.bool w0_) []
theorem spec_OnOk_spec  (o : On) : FnSpec Tryd.prog 11 [.agg [.int .i64 o.kind, .int .i64 o.day, .int .i64 o.week]] [] (.bool (onOk o)) [] := by
 refine FnSpec.of 35 Tryd.func11 rfl Tryd.ntmps11 (by simp) (AW.weakK ?_)
 refine AW.q 2 ?_
 refine AW.seq ?_
 refine AW.q 2 ?_
 refine AW.block ?_
 refine AW.q 2 ?_
 refine AW.cE o.kind (1 : Int) (fun h1 => ?_) (fun h1 => ?_)
 · refine AW.r ?_
   refine At.a 2 ?_
   refine At.c (spec_l1In_spec  o.day 1 31 ) Tryd.call21 true [] [] [] trivial ?_
   refine At.a 1 ?_
   by_cases h2 : (inR o.day 1 31) = true
   · refine At.sB 10 (inR o.day 1 31) true (sayB h2) ?_
     have h2i := inR_iff.1 h2
     refine At.z 5 ?_
     exact AW.ret (rf (k1 (K_spec_OnOk _ o) (show (o.week == 0) = (onOk o) from by simp [onOk, *]; done) (KF.n [])))
   refine At.sB 10 (inR o.day 1 31) false (sayB (Bool.eq_false_iff.2 h2)) ?_
   replace h2 := Bool.eq_false_iff.2 h2
   refine At.z 5 ?_
   exact AW.ret (rf (k1 (K_spec_OnOk _ o) (show (false) = (onOk o) from by simp [onOk, *]; done) (KF.n [])))
 refine AW.q 2 ?_
 refine AW.cE o.kind (2 : Int) (fun h3 => ?_) (fun h3 => ?_)
 · refine AW.r ?_
   refine At.a 4 ?_
   by_cases h4 : o.day = 0
   · refine At.sB 20 _ _ (sayET h4) ?_
     refine At.a 2 ?_
     refine At.c (spec_l1In_spec  o.week 0 6 ) Tryd.call21 true [] [] [] trivial ?_
     refine At.z 2 ?_
     exact AW.ret (rf (k1 (K_spec_OnOk _ o) (show (inR o.week 0 6) = (onOk o) from by simp [onOk, *]; done) (KF.n [])))
   refine At.sB 20 _ _ (sayEF h4) ?_
   refine At.z 5 ?_
   exact AW.ret (rf (k1 (K_spec_OnOk _ o) (show (false) = (onOk o) from by simp [onOk, *]; done) (KF.n [])))
 refine AW.q 2 ?_
 refine AW.cE o.kind (3 : Int) (fun h5 => ?_) (fun h5 => ?_)
 · refine AW.r ?_
   refine At.a 2 ?_
   refine At.c (spec_l1In_spec  o.day 1 31 ) Tryd.call21 true [] [] [] trivial ?_
   refine At.a 1 ?_
   by_cases h6 : (inR o.day 1 31) = true
   · refine At.sB 30 (inR o.day 1 31) true (sayB h6) ?_
     have h6i := inR_iff.1 h6
     refine At.a 2 ?_
     refine At.c (spec_l1In_spec  o.week 0 6 ) Tryd.call21 true [] [] [] trivial ?_
     refine At.z 2 ?_
     exact AW.ret (rf (k1 (K_spec_OnOk _ o) (show (inR o.week 0 6) = (onOk o) from by simp [onOk, *]; done) (KF.n [])))
   refine At.sB 30 (inR o.day 1 31) false (sayB (Bool.eq_false_iff.2 h6)) ?_
   replace h6 := Bool.eq_false_iff.2 h6
   refine At.z 5 ?_
   exact AW.ret (rf (k1 (K_spec_OnOk _ o) (show (false) = (onOk o) from by simp [onOk, *]; done) (KF.n [])))
 refine AW.skip ?_
 refine AW.q 1 ?_
 exact AW.ret (rf (k1 (K_spec_OnOk _ o) (show (false) = (onOk o) from by simp [onOk, *]; done) (KF.n [])))
def K_spec_OnRead (rs : List ResultVar) (s : ByteArray) (w0_ : On) (w1_ : Bool) : Exit → Sg → Prop := KF Tryd.prog 0 rs (.tup [.agg [.int .i64 w0_.kind, .int .i64 w0_.day, .int .i64 w0_.week], .bool w1_]) []
theorem spec_OnRead_spec  (s : ByteArray) (hs : s.size ≤ 1048576) : FnSpec Tryd.prog 5 [.str s] [] (.tup [.agg [.int .i64 (((onRS s.data.toList).1).kind), .int .i64 (((onRS s.data.toList).1).day), .int .i64 (((onRS s.data.toList).1).week)], .bool ((onRS s.data.toList).2)]) [] := by
 refine FnSpec.of 70 Tryd.func5 rfl Tryd.ntmps5 (by simp) (AW.weakK ?_)
 refine AW.q 2 ?_
 refine AW.q 3 ?_
 refine AW.q 1 ?_
 refine AW.seq ?_
 refine AW.block ?_
 refine AW.r ?_
 refine At.a 4 ?_
 by_cases h1 : (s.size : Int) > 4
 · refine At.sB 19 _ _ (sayT h1) ?_
   refine At.a 1 ?_
   refine At.slStr (t := 9) (d := 21) (x := .tmp 20) (lx := none) (hx := some (.const (.int .i64 4))) (s := s) (vl := .un) (vh := .int .i64 4) 0 4 (by kernel_rfl) (by kernel_rfl) (by kernel_rfl) (by kernel_rfl) (.inl ⟨rfl, rfl⟩) (.inr ⟨_, _, rfl, rfl⟩) (by omega) (by omega) ?_
   refine At.z 3 ?_
   refine AW.cE ((s.extract 0 4).toList) ((⟨#[108, 97, 115, 116]⟩ : ByteArray).toList) (fun h2 => ?_) (fun h2 => ?_)
   · refine AW.q 2 ?_
     refine AW.g ?_
     refine At.a 1 ?_
     refine At.slStr (t := 9) (d := 27) (x := .tmp 26) (lx := some (.const (.int .i64 4))) (hx := none) (s := s) (vl := .int .i64 4) (vh := .un) 4 s.size (by kernel_rfl) (by kernel_rfl) (by kernel_rfl) (by kernel_rfl) (.inr ⟨_, _, rfl, rfl⟩) (.inl ⟨rfl, rfl⟩) (by omega) (by omega) ?_
     refine At.c (spec_l12Read_spec  (s.extract 4 s.size) (by rw [ByteArray.size_extract]; omega)) Tryd.call14 true [] [] [] trivial ?_
     refine At.z 6 ?_
     refine AW.seq ?_
     refine AW.r ?_
     refine At.a 3 ?_
     by_cases h3 : ((rd4 (s.extract 4 s.size).data.toList).2) = true
     · refine At.sB 63 (!((rd4 (s.extract 4 s.size).data.toList).2)) false (sayNF (sayB h3)) ?_
       refine At.a 1 ?_
       refine At.c (spec_OnOk_spec  (⟨2, 0, (rd4 (s.extract 4 s.size).data.toList).1⟩ : On) ) Tryd.call11 true [] [] [] trivial ?_
       refine At.z 2 ?_
       refine AW.cNB (onOk (⟨2, 0, (rd4 (s.extract 4 s.size).data.toList).1⟩ : On)) (fun h4 => ?_) (fun h4 => ?_)
       · refine AW.q 3 ?_
         exact AW.ret (rf (k2 (K_spec_OnRead _ s) (show ((⟨0, 0, 0⟩ : On)) = ((onRS s.data.toList).1) from by rw [rs_no (by first | exact raw_1 (by assumption) (by assumption) | exact raw_2 (by rintro ⟨q1, q2⟩; first | exact absurd q1 (by assumption) | exact absurd q2 (by assumption)) (by assumption) (by assumption) | exact raw_3 (by rintro ⟨q1, q2⟩; first | exact absurd q1 (by assumption) | exact absurd q2 (by assumption)) (by rintro ⟨q1, q2⟩; first | exact absurd q1 (by assumption) | exact absurd q2 (by assumption))) (by assumption)]; first | done | rfl) (show (false) = ((onRS s.data.toList).2) from by rw [rs_no (by first | exact raw_1 (by assumption) (by assumption) | exact raw_2 (by rintro ⟨q1, q2⟩; first | exact absurd q1 (by assumption) | exact absurd q2 (by assumption)) (by assumption) (by assumption) | exact raw_3 (by rintro ⟨q1, q2⟩; first | exact absurd q1 (by assumption) | exact absurd q2 (by assumption)) (by rintro ⟨q1, q2⟩; first | exact absurd q1 (by assumption) | exact absurd q2 (by assumption))) (by assumption)]; first | done | rfl) (KF.n [])))
       refine AW.skip ?_
       refine AW.q 3 ?_
       exact AW.ret (rf (k2 (K_spec_OnRead _ s) (show ((⟨2, 0, (rd4 (s.extract 4 s.size).data.toList).1⟩ : On)) = ((onRS s.data.toList).1) from by rw [rs_ok (by first | exact raw_1 (by assumption) (by assumption) | exact raw_2 (by rintro ⟨q1, q2⟩; first | exact absurd q1 (by assumption) | exact absurd q2 (by assumption)) (by assumption) (by assumption) | exact raw_3 (by rintro ⟨q1, q2⟩; first | exact absurd q1 (by assumption) | exact absurd q2 (by assumption)) (by rintro ⟨q1, q2⟩; first | exact absurd q1 (by assumption) | exact absurd q2 (by assumption))) (by simp only [*]; first | done | rfl | decide) (by assumption)]) (show (true) = ((onRS s.data.toList).2) from by rw [rs_ok (by first | exact raw_1 (by assumption) (by assumption) | exact raw_2 (by rintro ⟨q1, q2⟩; first | exact absurd q1 (by assumption) | exact absurd q2 (by assumption)) (by assumption) (by assumption) | exact raw_3 (by rintro ⟨q1, q2⟩; first | exact absurd q1 (by assumption) | exact absurd q2 (by assumption)) (by rintro ⟨q1, q2⟩; first | exact absurd q1 (by assumption) | exact absurd q2 (by assumption))) (by simp only [*]; first | done | rfl | decide) (by assumption)]) (KF.n [])))
     refine At.sB 63 (!((rd4 (s.extract 4 s.size).data.toList).2)) true (sayNT (sayB (Bool.eq_false_iff.2 h3))) ?_
     replace h3 := Bool.eq_false_iff.2 h3
     refine At.z 4 ?_
     refine AW.cond true (by kernel_rfl) (fun _ => ?_) (fun h => by cases h)
     refine AW.q 3 ?_
     exact AW.ret (rf (k2 (K_spec_OnRead _ s) (show ((⟨0, 0, 0⟩ : On)) = ((onRS s.data.toList).1) from by rw [rs_bad (by first | exact raw_1 (by assumption) (by assumption) | exact raw_2 (by rintro ⟨q1, q2⟩; first | exact absurd q1 (by assumption) | exact absurd q2 (by assumption)) (by assumption) (by assumption) | exact raw_3 (by rintro ⟨q1, q2⟩; first | exact absurd q1 (by assumption) | exact absurd q2 (by assumption)) (by rintro ⟨q1, q2⟩; first | exact absurd q1 (by assumption) | exact absurd q2 (by assumption))) (by simp only [*]; first | done | rfl | decide)]; first | done | rfl) (show (false) = ((onRS s.data.toList).2) from by rw [rs_bad (by first | exact raw_1 (by assumption) (by assumption) | exact raw_2 (by rintro ⟨q1, q2⟩; first | exact absurd q1 (by assumption) | exact absurd q2 (by assumption)) (by assumption) (by assumption) | exact raw_3 (by rintro ⟨q1, q2⟩; first | exact absurd q1 (by assumption) | exact absurd q2 (by assumption)) (by rintro ⟨q1, q2⟩; first | exact absurd q1 (by assumption) | exact absurd q2 (by assumption))) (by simp only [*]; first | done | rfl | decide)]; first | done | rfl) (KF.n [])))
   refine AW.r ?_
   refine At.a 4 ?_
   by_cases h5 : (s.size : Int) > 3
   · refine At.sB 36 _ _ (sayT h5) ?_
     refine At.a 1 ?_
     refine At.slStr (t := 9) (d := 38) (x := .tmp 37) (lx := some (.const (.int .i64 1))) (hx := some (.const (.int .i64 3))) (s := s) (vl := .int .i64 1) (vh := .int .i64 3) 1 3 (by kernel_rfl) (by kernel_rfl) (by kernel_rfl) (by kernel_rfl) (.inr ⟨_, _, rfl, rfl⟩) (.inr ⟨_, _, rfl, rfl⟩) (by omega) (by omega) ?_
     refine At.z 3 ?_
     refine AW.cE ((s.extract 1 3).toList) ((⟨#[62, 61]⟩ : ByteArray).toList) (fun h6 => ?_) (fun h6 => ?_)
     · refine AW.q 2 ?_
       refine AW.r ?_
       refine At.a 1 ?_
       refine At.slStr (t := 9) (d := 44) (x := .tmp 43) (lx := none) (hx := some (.const (.int .i64 1))) (s := s) (vl := .un) (vh := .int .i64 1) 0 1 (by kernel_rfl) (by kernel_rfl) (by kernel_rfl) (by kernel_rfl) (.inl ⟨rfl, rfl⟩) (.inr ⟨_, _, rfl, rfl⟩) (by omega) (by omega) ?_
       refine At.c (spec_l12Read_spec  (s.extract 0 1) (by rw [ByteArray.size_extract]; omega)) Tryd.call14 true [] [] [] trivial ?_
       refine At.z 6 ?_
       refine AW.r ?_
       refine At.a 1 ?_
       refine At.slStr (t := 9) (d := 51) (x := .tmp 50) (lx := some (.const (.int .i64 3))) (hx := none) (s := s) (vl := .int .i64 3) (vh := .un) 3 s.size (by kernel_rfl) (by kernel_rfl) (by kernel_rfl) (by kernel_rfl) (.inr ⟨_, _, rfl, rfl⟩) (.inl ⟨rfl, rfl⟩) (by omega) (by omega) ?_
       refine At.c (spec_l12Read_spec  (s.extract 3 s.size) (by rw [ByteArray.size_extract]; omega)) Tryd.call14 true [] [] [] trivial ?_
       refine At.z 5 ?_
       refine AW.q 3 ?_
       refine AW.g ?_
       refine At.a 2 ?_
       by_cases h7 : ((rd4 (s.extract 0 1).data.toList).2) = true
       · refine At.sB 58 ((rd4 (s.extract 0 1).data.toList).2) true (sayB h7) ?_
         refine At.z 3 ?_
         refine AW.seq ?_
         refine AW.r ?_
         refine At.a 3 ?_
         by_cases h8 : ((rd4 (s.extract 3 s.size).data.toList).2) = true
         · refine At.sB 63 (!((rd4 (s.extract 3 s.size).data.toList).2)) false (sayNF (sayB h8)) ?_
           refine At.a 1 ?_
           refine At.c (spec_OnOk_spec  (⟨3, (rd4 (s.extract 3 s.size).data.toList).1, (rd4 (s.extract 0 1).data.toList).1⟩ : On) ) Tryd.call11 true [] [] [] trivial ?_
           refine At.z 2 ?_
           refine AW.cNB (onOk (⟨3, (rd4 (s.extract 3 s.size).data.toList).1, (rd4 (s.extract 0 1).data.toList).1⟩ : On)) (fun h9 => ?_) (fun h9 => ?_)
           · refine AW.q 3 ?_
             exact AW.ret (rf (k2 (K_spec_OnRead _ s) (show ((⟨0, 0, 0⟩ : On)) = ((onRS s.data.toList).1) from by rw [rs_no (by first | exact raw_1 (by assumption) (by assumption) | exact raw_2 (by rintro ⟨q1, q2⟩; first | exact absurd q1 (by assumption) | exact absurd q2 (by assumption)) (by assumption) (by assumption) | exact raw_3 (by rintro ⟨q1, q2⟩; first | exact absurd q1 (by assumption) | exact absurd q2 (by assumption)) (by rintro ⟨q1, q2⟩; first | exact absurd q1 (by assumption) | exact absurd q2 (by assumption))) (by assumption)]; first | done | rfl) (show (false) = ((onRS s.data.toList).2) from by rw [rs_no (by first | exact raw_1 (by assumption) (by assumption) | exact raw_2 (by rintro ⟨q1, q2⟩; first | exact absurd q1 (by assumption) | exact absurd q2 (by assumption)) (by assumption) (by assumption) | exact raw_3 (by rintro ⟨q1, q2⟩; first | exact absurd q1 (by assumption) | exact absurd q2 (by assumption)) (by rintro ⟨q1, q2⟩; first | exact absurd q1 (by assumption) | exact absurd q2 (by assumption))) (by assumption)]; first | done | rfl) (KF.n [])))
           refine AW.skip ?_
           refine AW.q 3 ?_
           exact AW.ret (rf (k2 (K_spec_OnRead _ s) (show ((⟨3, (rd4 (s.extract 3 s.size).data.toList).1, (rd4 (s.extract 0 1).data.toList).1⟩ : On)) = ((onRS s.data.toList).1) from by rw [rs_ok (by first | exact raw_1 (by assumption) (by assumption) | exact raw_2 (by rintro ⟨q1, q2⟩; first | exact absurd q1 (by assumption) | exact absurd q2 (by assumption)) (by assumption) (by assumption) | exact raw_3 (by rintro ⟨q1, q2⟩; first | exact absurd q1 (by assumption) | exact absurd q2 (by assumption)) (by rintro ⟨q1, q2⟩; first | exact absurd q1 (by assumption) | exact absurd q2 (by assumption))) (by simp only [*]; first | done | rfl | decide) (by assumption)]) (show (true) = ((onRS s.data.toList).2) from by rw [rs_ok (by first | exact raw_1 (by assumption) (by assumption) | exact raw_2 (by rintro ⟨q1, q2⟩; first | exact absurd q1 (by assumption) | exact absurd q2 (by assumption)) (by assumption) (by assumption) | exact raw_3 (by rintro ⟨q1, q2⟩; first | exact absurd q1 (by assumption) | exact absurd q2 (by assumption)) (by rintro ⟨q1, q2⟩; first | exact absurd q1 (by assumption) | exact absurd q2 (by assumption))) (by simp only [*]; first | done | rfl | decide) (by assumption)]) (KF.n [])))
         refine At.sB 63 (!((rd4 (s.extract 3 s.size).data.toList).2)) true (sayNT (sayB (Bool.eq_false_iff.2 h8))) ?_
         replace h8 := Bool.eq_false_iff.2 h8
         refine At.z 4 ?_
         refine AW.cond true (by kernel_rfl) (fun _ => ?_) (fun h => by cases h)
         refine AW.q 3 ?_
         exact AW.ret (rf (k2 (K_spec_OnRead _ s) (show ((⟨0, 0, 0⟩ : On)) = ((onRS s.data.toList).1) from by rw [rs_bad (by first | exact raw_1 (by assumption) (by assumption) | exact raw_2 (by rintro ⟨q1, q2⟩; first | exact absurd q1 (by assumption) | exact absurd q2 (by assumption)) (by assumption) (by assumption) | exact raw_3 (by rintro ⟨q1, q2⟩; first | exact absurd q1 (by assumption) | exact absurd q2 (by assumption)) (by rintro ⟨q1, q2⟩; first | exact absurd q1 (by assumption) | exact absurd q2 (by assumption))) (by simp only [*]; first | done | rfl | decide)]; first | done | rfl) (show (false) = ((onRS s.data.toList).2) from by rw [rs_bad (by first | exact raw_1 (by assumption) (by assumption) | exact raw_2 (by rintro ⟨q1, q2⟩; first | exact absurd q1 (by assumption) | exact absurd q2 (by assumption)) (by assumption) (by assumption) | exact raw_3 (by rintro ⟨q1, q2⟩; first | exact absurd q1 (by assumption) | exact absurd q2 (by assumption)) (by rintro ⟨q1, q2⟩; first | exact absurd q1 (by assumption) | exact absurd q2 (by assumption))) (by simp only [*]; first | done | rfl | decide)]; first | done | rfl) (KF.n [])))
       refine At.sB 58 ((rd4 (s.extract 0 1).data.toList).2) false (sayB (Bool.eq_false_iff.2 h7)) ?_
       replace h7 := Bool.eq_false_iff.2 h7
       refine At.z 3 ?_
       refine AW.seq ?_
       refine AW.q 7 ?_
       refine AW.cond true (by kernel_rfl) (fun _ => ?_) (fun h => by cases h)
       refine AW.q 3 ?_
       exact AW.ret (rf (k2 (K_spec_OnRead _ s) (show ((⟨0, 0, 0⟩ : On)) = ((onRS s.data.toList).1) from by rw [rs_bad (by first | exact raw_1 (by assumption) (by assumption) | exact raw_2 (by rintro ⟨q1, q2⟩; first | exact absurd q1 (by assumption) | exact absurd q2 (by assumption)) (by assumption) (by assumption) | exact raw_3 (by rintro ⟨q1, q2⟩; first | exact absurd q1 (by assumption) | exact absurd q2 (by assumption)) (by rintro ⟨q1, q2⟩; first | exact absurd q1 (by assumption) | exact absurd q2 (by assumption))) (by simp only [*]; first | done | rfl | decide)]; first | done | rfl) (show (false) = ((onRS s.data.toList).2) from by rw [rs_bad (by first | exact raw_1 (by assumption) (by assumption) | exact raw_2 (by rintro ⟨q1, q2⟩; first | exact absurd q1 (by assumption) | exact absurd q2 (by assumption)) (by assumption) (by assumption) | exact raw_3 (by rintro ⟨q1, q2⟩; first | exact absurd q1 (by assumption) | exact absurd q2 (by assumption)) (by rintro ⟨q1, q2⟩; first | exact absurd q1 (by assumption) | exact absurd q2 (by assumption))) (by simp only [*]; first | done | rfl | decide)]; first | done | rfl) (KF.n [])))
     refine AW.g ?_
     refine At.a 1 ?_
     refine At.c (spec_l12Read_spec  s (by assumption)) Tryd.call14 true [] [] [] trivial ?_
     refine At.z 6 ?_
     refine AW.seq ?_
     refine AW.r ?_
     refine At.a 3 ?_
     by_cases h10 : ((rd4 s.data.toList).2) = true
     · refine At.sB 63 (!((rd4 s.data.toList).2)) false (sayNF (sayB h10)) ?_
       refine At.a 1 ?_
       refine At.c (spec_OnOk_spec  (⟨1, (rd4 s.data.toList).1, 0⟩ : On) ) Tryd.call11 true [] [] [] trivial ?_
       refine At.z 2 ?_
       refine AW.cNB (onOk (⟨1, (rd4 s.data.toList).1, 0⟩ : On)) (fun h11 => ?_) (fun h11 => ?_)
       · refine AW.q 3 ?_
         exact AW.ret (rf (k2 (K_spec_OnRead _ s) (show ((⟨0, 0, 0⟩ : On)) = ((onRS s.data.toList).1) from by rw [rs_no (by first | exact raw_1 (by assumption) (by assumption) | exact raw_2 (by rintro ⟨q1, q2⟩; first | exact absurd q1 (by assumption) | exact absurd q2 (by assumption)) (by assumption) (by assumption) | exact raw_3 (by rintro ⟨q1, q2⟩; first | exact absurd q1 (by assumption) | exact absurd q2 (by assumption)) (by rintro ⟨q1, q2⟩; first | exact absurd q1 (by assumption) | exact absurd q2 (by assumption))) (by assumption)]; first | done | rfl) (show (false) = ((onRS s.data.toList).2) from by rw [rs_no (by first | exact raw_1 (by assumption) (by assumption) | exact raw_2 (by rintro ⟨q1, q2⟩; first | exact absurd q1 (by assumption) | exact absurd q2 (by assumption)) (by assumption) (by assumption) | exact raw_3 (by rintro ⟨q1, q2⟩; first | exact absurd q1 (by assumption) | exact absurd q2 (by assumption)) (by rintro ⟨q1, q2⟩; first | exact absurd q1 (by assumption) | exact absurd q2 (by assumption))) (by assumption)]; first | done | rfl) (KF.n [])))
       refine AW.skip ?_
       refine AW.q 3 ?_
       exact AW.ret (rf (k2 (K_spec_OnRead _ s) (show ((⟨1, (rd4 s.data.toList).1, 0⟩ : On)) = ((onRS s.data.toList).1) from by rw [rs_ok (by first | exact raw_1 (by assumption) (by assumption) | exact raw_2 (by rintro ⟨q1, q2⟩; first | exact absurd q1 (by assumption) | exact absurd q2 (by assumption)) (by assumption) (by assumption) | exact raw_3 (by rintro ⟨q1, q2⟩; first | exact absurd q1 (by assumption) | exact absurd q2 (by assumption)) (by rintro ⟨q1, q2⟩; first | exact absurd q1 (by assumption) | exact absurd q2 (by assumption))) (by simp only [*]; first | done | rfl | decide) (by assumption)]) (show (true) = ((onRS s.data.toList).2) from by rw [rs_ok (by first | exact raw_1 (by assumption) (by assumption) | exact raw_2 (by rintro ⟨q1, q2⟩; first | exact absurd q1 (by assumption) | exact absurd q2 (by assumption)) (by assumption) (by assumption) | exact raw_3 (by rintro ⟨q1, q2⟩; first | exact absurd q1 (by assumption) | exact absurd q2 (by assumption)) (by rintro ⟨q1, q2⟩; first | exact absurd q1 (by assumption) | exact absurd q2 (by assumption))) (by simp only [*]; first | done | rfl | decide) (by assumption)]) (KF.n [])))
     refine At.sB 63 (!((rd4 s.data.toList).2)) true (sayNT (sayB (Bool.eq_false_iff.2 h10))) ?_
     replace h10 := Bool.eq_false_iff.2 h10
     refine At.z 4 ?_
     refine AW.cond true (by kernel_rfl) (fun _ => ?_) (fun h => by cases h)
     refine AW.q 3 ?_
     exact AW.ret (rf (k2 (K_spec_OnRead _ s) (show ((⟨0, 0, 0⟩ : On)) = ((onRS s.data.toList).1) from by rw [rs_bad (by first | exact raw_1 (by assumption) (by assumption) | exact raw_2 (by rintro ⟨q1, q2⟩; first | exact absurd q1 (by assumption) | exact absurd q2 (by assumption)) (by assumption) (by assumption) | exact raw_3 (by rintro ⟨q1, q2⟩; first | exact absurd q1 (by assumption) | exact absurd q2 (by assumption)) (by rintro ⟨q1, q2⟩; first | exact absurd q1 (by assumption) | exact absurd q2 (by assumption))) (by simp only [*]; first | done | rfl | decide)]; first | done | rfl) (show (false) = ((onRS s.data.toList).2) from by rw [rs_bad (by first | exact raw_1 (by assumption) (by assumption) | exact raw_2 (by rintro ⟨q1, q2⟩; first | exact absurd q1 (by assumption) | exact absurd q2 (by assumption)) (by assumption) (by assumption) | exact raw_3 (by rintro ⟨q1, q2⟩; first | exact absurd q1 (by assumption) | exact absurd q2 (by assumption)) (by rintro ⟨q1, q2⟩; first | exact absurd q1 (by assumption) | exact absurd q2 (by assumption))) (by simp only [*]; first | done | rfl | decide)]; first | done | rfl) (KF.n [])))
   refine At.sB 36 _ _ (sayF h5) ?_
   refine At.z 5 ?_
   refine AW.cond false (by kernel_rfl) (fun h => by cases h) (fun _ => ?_)
   refine AW.g ?_
   refine At.a 1 ?_
   refine At.c (spec_l12Read_spec  s (by assumption)) Tryd.call14 true [] [] [] trivial ?_
   refine At.z 6 ?_
   refine AW.seq ?_
   refine AW.r ?_
   refine At.a 3 ?_
   by_cases h12 : ((rd4 s.data.toList).2) = true
   · refine At.sB 63 (!((rd4 s.data.toList).2)) false (sayNF (sayB h12)) ?_
     refine At.a 1 ?_
     refine At.c (spec_OnOk_spec  (⟨1, (rd4 s.data.toList).1, 0⟩ : On) ) Tryd.call11 true [] [] [] trivial ?_
     refine At.z 2 ?_
     refine AW.cNB (onOk (⟨1, (rd4 s.data.toList).1, 0⟩ : On)) (fun h13 => ?_) (fun h13 => ?_)
     · refine AW.q 3 ?_
       exact AW.ret (rf (k2 (K_spec_OnRead _ s) (show ((⟨0, 0, 0⟩ : On)) = ((onRS s.data.toList).1) from by rw [rs_no (by first | exact raw_1 (by assumption) (by assumption) | exact raw_2 (by rintro ⟨q1, q2⟩; first | exact absurd q1 (by assumption) | exact absurd q2 (by assumption)) (by assumption) (by assumption) | exact raw_3 (by rintro ⟨q1, q2⟩; first | exact absurd q1 (by assumption) | exact absurd q2 (by assumption)) (by rintro ⟨q1, q2⟩; first | exact absurd q1 (by assumption) | exact absurd q2 (by assumption))) (by assumption)]; first | done | rfl) (show (false) = ((onRS s.data.toList).2) from by rw [rs_no (by first | exact raw_1 (by assumption) (by assumption) | exact raw_2 (by rintro ⟨q1, q2⟩; first | exact absurd q1 (by assumption) | exact absurd q2 (by assumption)) (by assumption) (by assumption) | exact raw_3 (by rintro ⟨q1, q2⟩; first | exact absurd q1 (by assumption) | exact absurd q2 (by assumption)) (by rintro ⟨q1, q2⟩; first | exact absurd q1 (by assumption) | exact absurd q2 (by assumption))) (by assumption)]; first | done | rfl) (KF.n [])))
     refine AW.skip ?_
     refine AW.q 3 ?_
     exact AW.ret (rf (k2 (K_spec_OnRead _ s) (show ((⟨1, (rd4 s.data.toList).1, 0⟩ : On)) = ((onRS s.data.toList).1) from by rw [rs_ok (by first | exact raw_1 (by assumption) (by assumption) | exact raw_2 (by rintro ⟨q1, q2⟩; first | exact absurd q1 (by assumption) | exact absurd q2 (by assumption)) (by assumption) (by assumption) | exact raw_3 (by rintro ⟨q1, q2⟩; first | exact absurd q1 (by assumption) | exact absurd q2 (by assumption)) (by rintro ⟨q1, q2⟩; first | exact absurd q1 (by assumption) | exact absurd q2 (by assumption))) (by simp only [*]; first | done | rfl | decide) (by assumption)]) (show (true) = ((onRS s.data.toList).2) from by rw [rs_ok (by first | exact raw_1 (by assumption) (by assumption) | exact raw_2 (by rintro ⟨q1, q2⟩; first | exact absurd q1 (by assumption) | exact absurd q2 (by assumption)) (by assumption) (by assumption) | exact raw_3 (by rintro ⟨q1, q2⟩; first | exact absurd q1 (by assumption) | exact absurd q2 (by assumption)) (by rintro ⟨q1, q2⟩; first | exact absurd q1 (by assumption) | exact absurd q2 (by assumption))) (by simp only [*]; first | done | rfl | decide) (by assumption)]) (KF.n [])))
   refine At.sB 63 (!((rd4 s.data.toList).2)) true (sayNT (sayB (Bool.eq_false_iff.2 h12))) ?_
   replace h12 := Bool.eq_false_iff.2 h12
   refine At.z 4 ?_
   refine AW.cond true (by kernel_rfl) (fun _ => ?_) (fun h => by cases h)
   refine AW.q 3 ?_
   exact AW.ret (rf (k2 (K_spec_OnRead _ s) (show ((⟨0, 0, 0⟩ : On)) = ((onRS s.data.toList).1) from by rw [rs_bad (by first | exact raw_1 (by assumption) (by assumption) | exact raw_2 (by rintro ⟨q1, q2⟩; first | exact absurd q1 (by assumption) | exact absurd q2 (by assumption)) (by assumption) (by assumption) | exact raw_3 (by rintro ⟨q1, q2⟩; first | exact absurd q1 (by assumption) | exact absurd q2 (by assumption)) (by rintro ⟨q1, q2⟩; first | exact absurd q1 (by assumption) | exact absurd q2 (by assumption))) (by simp only [*]; first | done | rfl | decide)]; first | done | rfl) (show (false) = ((onRS s.data.toList).2) from by rw [rs_bad (by first | exact raw_1 (by assumption) (by assumption) | exact raw_2 (by rintro ⟨q1, q2⟩; first | exact absurd q1 (by assumption) | exact absurd q2 (by assumption)) (by assumption) (by assumption) | exact raw_3 (by rintro ⟨q1, q2⟩; first | exact absurd q1 (by assumption) | exact absurd q2 (by assumption)) (by rintro ⟨q1, q2⟩; first | exact absurd q1 (by assumption) | exact absurd q2 (by assumption))) (by simp only [*]; first | done | rfl | decide)]; first | done | rfl) (KF.n [])))
 refine At.sB 19 _ _ (sayF h1) ?_
 refine At.z 5 ?_
 refine AW.cond false (by kernel_rfl) (fun h => by cases h) (fun _ => ?_)
 refine AW.r ?_
 refine At.a 4 ?_
 by_cases h14 : (s.size : Int) > 3
 · refine At.sB 36 _ _ (sayT h14) ?_
   refine At.a 1 ?_
   refine At.slStr (t := 9) (d := 38) (x := .tmp 37) (lx := some (.const (.int .i64 1))) (hx := some (.const (.int .i64 3))) (s := s) (vl := .int .i64 1) (vh := .int .i64 3) 1 3 (by kernel_rfl) (by kernel_rfl) (by kernel_rfl) (by kernel_rfl) (.inr ⟨_, _, rfl, rfl⟩) (.inr ⟨_, _, rfl, rfl⟩) (by omega) (by omega) ?_
   refine At.z 3 ?_
   refine AW.cE ((s.extract 1 3).toList) ((⟨#[62, 61]⟩ : ByteArray).toList) (fun h15 => ?_) (fun h15 => ?_)
   · refine AW.q 2 ?_
     refine AW.r ?_
     refine At.a 1 ?_
     refine At.slStr (t := 9) (d := 44) (x := .tmp 43) (lx := none) (hx := some (.const (.int .i64 1))) (s := s) (vl := .un) (vh := .int .i64 1) 0 1 (by kernel_rfl) (by kernel_rfl) (by kernel_rfl) (by kernel_rfl) (.inl ⟨rfl, rfl⟩) (.inr ⟨_, _, rfl, rfl⟩) (by omega) (by omega) ?_
     refine At.c (spec_l12Read_spec  (s.extract 0 1) (by rw [ByteArray.size_extract]; omega)) Tryd.call14 true [] [] [] trivial ?_
     refine At.z 6 ?_
     refine AW.r ?_
     refine At.a 1 ?_
     refine At.slStr (t := 9) (d := 51) (x := .tmp 50) (lx := some (.const (.int .i64 3))) (hx := none) (s := s) (vl := .int .i64 3) (vh := .un) 3 s.size (by kernel_rfl) (by kernel_rfl) (by kernel_rfl) (by kernel_rfl) (.inr ⟨_, _, rfl, rfl⟩) (.inl ⟨rfl, rfl⟩) (by omega) (by omega) ?_
     refine At.c (spec_l12Read_spec  (s.extract 3 s.size) (by rw [ByteArray.size_extract]; omega)) Tryd.call14 true [] [] [] trivial ?_
     refine At.z 5 ?_
     refine AW.q 3 ?_
     refine AW.g ?_
     refine At.a 2 ?_
     by_cases h16 : ((rd4 (s.extract 0 1).data.toList).2) = true
     · refine At.sB 58 ((rd4 (s.extract 0 1).data.toList).2) true (sayB h16) ?_
       refine At.z 3 ?_
       refine AW.seq ?_
       refine AW.r ?_
       refine At.a 3 ?_
       by_cases h17 : ((rd4 (s.extract 3 s.size).data.toList).2) = true
       · refine At.sB 63 (!((rd4 (s.extract 3 s.size).data.toList).2)) false (sayNF (sayB h17)) ?_
         refine At.a 1 ?_
         refine At.c (spec_OnOk_spec  (⟨3, (rd4 (s.extract 3 s.size).data.toList).1, (rd4 (s.extract 0 1).data.toList).1⟩ : On) ) Tryd.call11 true [] [] [] trivial ?_
         refine At.z 2 ?_
         refine AW.cNB (onOk (⟨3, (rd4 (s.extract 3 s.size).data.toList).1, (rd4 (s.extract 0 1).data.toList).1⟩ : On)) (fun h18 => ?_) (fun h18 => ?_)
         · refine AW.q 3 ?_
           exact AW.ret (rf (k2 (K_spec_OnRead _ s) (show ((⟨0, 0, 0⟩ : On)) = ((onRS s.data.toList).1) from by rw [rs_no (by first | exact raw_1 (by assumption) (by assumption) | exact raw_2 (by rintro ⟨q1, q2⟩; first | exact absurd q1 (by assumption) | exact absurd q2 (by assumption)) (by assumption) (by assumption) | exact raw_3 (by rintro ⟨q1, q2⟩; first | exact absurd q1 (by assumption) | exact absurd q2 (by assumption)) (by rintro ⟨q1, q2⟩; first | exact absurd q1 (by assumption) | exact absurd q2 (by assumption))) (by assumption)]; first | done | rfl) (show (false) = ((onRS s.data.toList).2) from by rw [rs_no (by first | exact raw_1 (by assumption) (by assumption) | exact raw_2 (by rintro ⟨q1, q2⟩; first | exact absurd q1 (by assumption) | exact absurd q2 (by assumption)) (by assumption) (by assumption) | exact raw_3 (by rintro ⟨q1, q2⟩; first | exact absurd q1 (by assumption) | exact absurd q2 (by assumption)) (by rintro ⟨q1, q2⟩; first | exact absurd q1 (by assumption) | exact absurd q2 (by assumption))) (by assumption)]; first | done | rfl) (KF.n [])))
         refine AW.skip ?_
         refine AW.q 3 ?_
         exact AW.ret (rf (k2 (K_spec_OnRead _ s) (show ((⟨3, (rd4 (s.extract 3 s.size).data.toList).1, (rd4 (s.extract 0 1).data.toList).1⟩ : On)) = ((onRS s.data.toList).1) from by rw [rs_ok (by first | exact raw_1 (by assumption) (by assumption) | exact raw_2 (by rintro ⟨q1, q2⟩; first | exact absurd q1 (by assumption) | exact absurd q2 (by assumption)) (by assumption) (by assumption) | exact raw_3 (by rintro ⟨q1, q2⟩; first | exact absurd q1 (by assumption) | exact absurd q2 (by assumption)) (by rintro ⟨q1, q2⟩; first | exact absurd q1 (by assumption) | exact absurd q2 (by assumption))) (by simp only [*]; first | done | rfl | decide) (by assumption)]) (show (true) = ((onRS s.data.toList).2) from by rw [rs_ok (by first | exact raw_1 (by assumption) (by assumption) | exact raw_2 (by rintro ⟨q1, q2⟩; first | exact absurd q1 (by assumption) | exact absurd q2 (by assumption)) (by assumption) (by assumption) | exact raw_3 (by rintro ⟨q1, q2⟩; first | exact absurd q1 (by assumption) | exact absurd q2 (by assumption)) (by rintro ⟨q1, q2⟩; first | exact absurd q1 (by assumption) | exact absurd q2 (by assumption))) (by simp only [*]; first | done | rfl | decide) (by assumption)]) (KF.n [])))
       refine At.sB 63 (!((rd4 (s.extract 3 s.size).data.toList).2)) true (sayNT (sayB (Bool.eq_false_iff.2 h17))) ?_
       replace h17 := Bool.eq_false_iff.2 h17
       refine At.z 4 ?_
       refine AW.cond true (by kernel_rfl) (fun _ => ?_) (fun h => by cases h)
       refine AW.q 3 ?_
       exact AW.ret (rf (k2 (K_spec_OnRead _ s) (show ((⟨0, 0, 0⟩ : On)) = ((onRS s.data.toList).1) from by rw [rs_bad (by first | exact raw_1 (by assumption) (by assumption) | exact raw_2 (by rintro ⟨q1, q2⟩; first | exact absurd q1 (by assumption) | exact absurd q2 (by assumption)) (by assumption) (by assumption) | exact raw_3 (by rintro ⟨q1, q2⟩; first | exact absurd q1 (by assumption) | exact absurd q2 (by assumption)) (by rintro ⟨q1, q2⟩; first | exact absurd q1 (by assumption) | exact absurd q2 (by assumption))) (by simp only [*]; first | done | rfl | decide)]; first | done | rfl) (show (false) = ((onRS s.data.toList).2) from by rw [rs_bad (by first | exact raw_1 (by assumption) (by assumption) | exact raw_2 (by rintro ⟨q1, q2⟩; first | exact absurd q1 (by assumption) | exact absurd q2 (by assumption)) (by assumption) (by assumption) | exact raw_3 (by rintro ⟨q1, q2⟩; first | exact absurd q1 (by assumption) | exact absurd q2 (by assumption)) (by rintro ⟨q1, q2⟩; first | exact absurd q1 (by assumption) | exact absurd q2 (by assumption))) (by simp only [*]; first | done | rfl | decide)]; first | done | rfl) (KF.n [])))
     refine At.sB 58 ((rd4 (s.extract 0 1).data.toList).2) false (sayB (Bool.eq_false_iff.2 h16)) ?_
     replace h16 := Bool.eq_false_iff.2 h16
     refine At.z 3 ?_
     refine AW.seq ?_
     refine AW.q 7 ?_
     refine AW.cond true (by kernel_rfl) (fun _ => ?_) (fun h => by cases h)
     refine AW.q 3 ?_
     exact AW.ret (rf (k2 (K_spec_OnRead _ s) (show ((⟨0, 0, 0⟩ : On)) = ((onRS s.data.toList).1) from by rw [rs_bad (by first | exact raw_1 (by assumption) (by assumption) | exact raw_2 (by rintro ⟨q1, q2⟩; first | exact absurd q1 (by assumption) | exact absurd q2 (by assumption)) (by assumption) (by assumption) | exact raw_3 (by rintro ⟨q1, q2⟩; first | exact absurd q1 (by assumption) | exact absurd q2 (by assumption)) (by rintro ⟨q1, q2⟩; first | exact absurd q1 (by assumption) | exact absurd q2 (by assumption))) (by simp only [*]; first | done | rfl | decide)]; first | done | rfl) (show (false) = ((onRS s.data.toList).2) from by rw [rs_bad (by first | exact raw_1 (by assumption) (by assumption) | exact raw_2 (by rintro ⟨q1, q2⟩; first | exact absurd q1 (by assumption) | exact absurd q2 (by assumption)) (by assumption) (by assumption) | exact raw_3 (by rintro ⟨q1, q2⟩; first | exact absurd q1 (by assumption) | exact absurd q2 (by assumption)) (by rintro ⟨q1, q2⟩; first | exact absurd q1 (by assumption) | exact absurd q2 (by assumption))) (by simp only [*]; first | done | rfl | decide)]; first | done | rfl) (KF.n [])))
   refine AW.g ?_
   refine At.a 1 ?_
   refine At.c (spec_l12Read_spec  s (by assumption)) Tryd.call14 true [] [] [] trivial ?_
   refine At.z 6 ?_
   refine AW.seq ?_
   refine AW.r ?_
   refine At.a 3 ?_
   by_cases h19 : ((rd4 s.data.toList).2) = true
   · refine At.sB 63 (!((rd4 s.data.toList).2)) false (sayNF (sayB h19)) ?_
     refine At.a 1 ?_
     refine At.c (spec_OnOk_spec  (⟨1, (rd4 s.data.toList).1, 0⟩ : On) ) Tryd.call11 true [] [] [] trivial ?_
     refine At.z 2 ?_
     refine AW.cNB (onOk (⟨1, (rd4 s.data.toList).1, 0⟩ : On)) (fun h20 => ?_) (fun h20 => ?_)
     · refine AW.q 3 ?_
       exact AW.ret (rf (k2 (K_spec_OnRead _ s) (show ((⟨0, 0, 0⟩ : On)) = ((onRS s.data.toList).1) from by rw [rs_no (by first | exact raw_1 (by assumption) (by assumption) | exact raw_2 (by rintro ⟨q1, q2⟩; first | exact absurd q1 (by assumption) | exact absurd q2 (by assumption)) (by assumption) (by assumption) | exact raw_3 (by rintro ⟨q1, q2⟩; first | exact absurd q1 (by assumption) | exact absurd q2 (by assumption)) (by rintro ⟨q1, q2⟩; first | exact absurd q1 (by assumption) | exact absurd q2 (by assumption))) (by assumption)]; first | done | rfl) (show (false) = ((onRS s.data.toList).2) from by rw [rs_no (by first | exact raw_1 (by assumption) (by assumption) | exact raw_2 (by rintro ⟨q1, q2⟩; first | exact absurd q1 (by assumption) | exact absurd q2 (by assumption)) (by assumption) (by assumption) | exact raw_3 (by rintro ⟨q1, q2⟩; first | exact absurd q1 (by assumption) | exact absurd q2 (by assumption)) (by rintro ⟨q1, q2⟩; first | exact absurd q1 (by assumption) | exact absurd q2 (by assumption))) (by assumption)]; first | done | rfl) (KF.n [])))
     refine AW.skip ?_
     refine AW.q 3 ?_
     exact AW.ret (rf (k2 (K_spec_OnRead _ s) (show ((⟨1, (rd4 s.data.toList).1, 0⟩ : On)) = ((onRS s.data.toList).1) from by rw [rs_ok (by first | exact raw_1 (by assumption) (by assumption) | exact raw_2 (by rintro ⟨q1, q2⟩; first | exact absurd q1 (by assumption) | exact absurd q2 (by assumption)) (by assumption) (by assumption) | exact raw_3 (by rintro ⟨q1, q2⟩; first | exact absurd q1 (by assumption) | exact absurd q2 (by assumption)) (by rintro ⟨q1, q2⟩; first | exact absurd q1 (by assumption) | exact absurd q2 (by assumption))) (by simp only [*]; first | done | rfl | decide) (by assumption)]) (show (true) = ((onRS s.data.toList).2) from by rw [rs_ok (by first | exact raw_1 (by assumption) (by assumption) | exact raw_2 (by rintro ⟨q1, q2⟩; first | exact absurd q1 (by assumption) | exact absurd q2 (by assumption)) (by assumption) (by assumption) | exact raw_3 (by rintro ⟨q1, q2⟩; first | exact absurd q1 (by assumption) | exact absurd q2 (by assumption)) (by rintro ⟨q1, q2⟩; first | exact absurd q1 (by assumption) | exact absurd q2 (by assumption))) (by simp only [*]; first | done | rfl | decide) (by assumption)]) (KF.n [])))
   refine At.sB 63 (!((rd4 s.data.toList).2)) true (sayNT (sayB (Bool.eq_false_iff.2 h19))) ?_
   replace h19 := Bool.eq_false_iff.2 h19
   refine At.z 4 ?_
   refine AW.cond true (by kernel_rfl) (fun _ => ?_) (fun h => by cases h)
   refine AW.q 3 ?_
   exact AW.ret (rf (k2 (K_spec_OnRead _ s) (show ((⟨0, 0, 0⟩ : On)) = ((onRS s.data.toList).1) from by rw [rs_bad (by first | exact raw_1 (by assumption) (by assumption) | exact raw_2 (by rintro ⟨q1, q2⟩; first | exact absurd q1 (by assumption) | exact absurd q2 (by assumption)) (by assumption) (by assumption) | exact raw_3 (by rintro ⟨q1, q2⟩; first | exact absurd q1 (by assumption) | exact absurd q2 (by assumption)) (by rintro ⟨q1, q2⟩; first | exact absurd q1 (by assumption) | exact absurd q2 (by assumption))) (by simp only [*]; first | done | rfl | decide)]; first | done | rfl) (show (false) = ((onRS s.data.toList).2) from by rw [rs_bad (by first | exact raw_1 (by assumption) (by assumption) | exact raw_2 (by rintro ⟨q1, q2⟩; first | exact absurd q1 (by assumption) | exact absurd q2 (by assumption)) (by assumption) (by assumption) | exact raw_3 (by rintro ⟨q1, q2⟩; first | exact absurd q1 (by assumption) | exact absurd q2 (by assumption)) (by rintro ⟨q1, q2⟩; first | exact absurd q1 (by assumption) | exact absurd q2 (by assumption))) (by simp only [*]; first | done | rfl | decide)]; first | done | rfl) (KF.n [])))
 refine At.sB 36 _ _ (sayF h14) ?_
 refine At.z 5 ?_
 refine AW.cond false (by kernel_rfl) (fun h => by cases h) (fun _ => ?_)
 refine AW.g ?_
 refine At.a 1 ?_
 refine At.c (spec_l12Read_spec  s (by assumption)) Tryd.call14 true [] [] [] trivial ?_
 refine At.z 6 ?_
 refine AW.seq ?_
 refine AW.r ?_
 refine At.a 3 ?_
 by_cases h21 : ((rd4 s.data.toList).2) = true
 · refine At.sB 63 (!((rd4 s.data.toList).2)) false (sayNF (sayB h21)) ?_
   refine At.a 1 ?_
   refine At.c (spec_OnOk_spec  (⟨1, (rd4 s.data.toList).1, 0⟩ : On) ) Tryd.call11 true [] [] [] trivial ?_
   refine At.z 2 ?_
   refine AW.cNB (onOk (⟨1, (rd4 s.data.toList).1, 0⟩ : On)) (fun h22 => ?_) (fun h22 => ?_)
   · refine AW.q 3 ?_
     exact AW.ret (rf (k2 (K_spec_OnRead _ s) (show ((⟨0, 0, 0⟩ : On)) = ((onRS s.data.toList).1) from by rw [rs_no (by first | exact raw_1 (by assumption) (by assumption) | exact raw_2 (by rintro ⟨q1, q2⟩; first | exact absurd q1 (by assumption) | exact absurd q2 (by assumption)) (by assumption) (by assumption) | exact raw_3 (by rintro ⟨q1, q2⟩; first | exact absurd q1 (by assumption) | exact absurd q2 (by assumption)) (by rintro ⟨q1, q2⟩; first | exact absurd q1 (by assumption) | exact absurd q2 (by assumption))) (by assumption)]; first | done | rfl) (show (false) = ((onRS s.data.toList).2) from by rw [rs_no (by first | exact raw_1 (by assumption) (by assumption) | exact raw_2 (by rintro ⟨q1, q2⟩; first | exact absurd q1 (by assumption) | exact absurd q2 (by assumption)) (by assumption) (by assumption) | exact raw_3 (by rintro ⟨q1, q2⟩; first | exact absurd q1 (by assumption) | exact absurd q2 (by assumption)) (by rintro ⟨q1, q2⟩; first | exact absurd q1 (by assumption) | exact absurd q2 (by assumption))) (by assumption)]; first | done | rfl) (KF.n [])))
   refine AW.skip ?_
   refine AW.q 3 ?_
   exact AW.ret (rf (k2 (K_spec_OnRead _ s) (show ((⟨1, (rd4 s.data.toList).1, 0⟩ : On)) = ((onRS s.data.toList).1) from by rw [rs_ok (by first | exact raw_1 (by assumption) (by assumption) | exact raw_2 (by rintro ⟨q1, q2⟩; first | exact absurd q1 (by assumption) | exact absurd q2 (by assumption)) (by assumption) (by assumption) | exact raw_3 (by rintro ⟨q1, q2⟩; first | exact absurd q1 (by assumption) | exact absurd q2 (by assumption)) (by rintro ⟨q1, q2⟩; first | exact absurd q1 (by assumption) | exact absurd q2 (by assumption))) (by simp only [*]; first | done | rfl | decide) (by assumption)]) (show (true) = ((onRS s.data.toList).2) from by rw [rs_ok (by first | exact raw_1 (by assumption) (by assumption) | exact raw_2 (by rintro ⟨q1, q2⟩; first | exact absurd q1 (by assumption) | exact absurd q2 (by assumption)) (by assumption) (by assumption) | exact raw_3 (by rintro ⟨q1, q2⟩; first | exact absurd q1 (by assumption) | exact absurd q2 (by assumption)) (by rintro ⟨q1, q2⟩; first | exact absurd q1 (by assumption) | exact absurd q2 (by assumption))) (by simp only [*]; first | done | rfl | decide) (by assumption)]) (KF.n [])))
 refine At.sB 63 (!((rd4 s.data.toList).2)) true (sayNT (sayB (Bool.eq_false_iff.2 h21))) ?_
 replace h21 := Bool.eq_false_iff.2 h21
 refine At.z 4 ?_
 refine AW.cond true (by kernel_rfl) (fun _ => ?_) (fun h => by cases h)
 refine AW.q 3 ?_
 exact AW.ret (rf (k2 (K_spec_OnRead _ s) (show ((⟨0, 0, 0⟩ : On)) = ((onRS s.data.toList).1) from by rw [rs_bad (by first | exact raw_1 (by assumption) (by assumption) | exact raw_2 (by rintro ⟨q1, q2⟩; first | exact absurd q1 (by assumption) | exact absurd q2 (by assumption)) (by assumption) (by assumption) | exact raw_3 (by rintro ⟨q1, q2⟩; first | exact absurd q1 (by assumption) | exact absurd q2 (by assumption)) (by rintro ⟨q1, q2⟩; first | exact absurd q1 (by assumption) | exact absurd q2 (by assumption))) (by simp only [*]; first | done | rfl | decide)]; first | done | rfl) (show (false) = ((onRS s.data.toList).2) from by rw [rs_bad (by first | exact raw_1 (by assumption) (by assumption) | exact raw_2 (by rintro ⟨q1, q2⟩; first | exact absurd q1 (by assumption) | exact absurd q2 (by assumption)) (by assumption) (by assumption) | exact raw_3 (by rintro ⟨q1, q2⟩; first | exact absurd q1 (by assumption) | exact absurd q2 (by assumption)) (by rintro ⟨q1, q2⟩; first | exact absurd q1 (by assumption) | exact absurd q2 (by assumption))) (by simp only [*]; first | done | rfl | decide)]; first | done | rfl) (KF.n [])))
theorem strings_CutPrefix_spec  (s : ByteArray) (p : ByteArray) : FnSpecQ GB Tryd.prog 15 [.str s, .str p] (.tup [.str (strOf (Lib.trimPrefix s.data.toList p.data.toList)), .bool (Lib.hasPrefix s.data.toList p.data.toList)]) := cutPrefix_q s p
theorem strings_Cut_spec  (s : ByteArray) (p : ByteArray) (hs : s.size ≤ 1048576) : FnSpecQ GB Tryd.prog 16 [.str s, .str p] (.tup [.str (strOf (Lib.cut s.data.toList p.data.toList).1), .str (strOf (Lib.cut s.data.toList p.data.toList).2.1), .bool ((Lib.cut s.data.toList p.data.toList).2.2)]) := cut_q s p hs
theorem impl_readNumber_spec  (s : ByteArray) (m : Int) (hs : s.size ≤ 1048576) : FnSpecQ GB Tryd.prog 17 [.str s, .int .i64 m] (.tup [.int .i64 ((rdN s.data.toList m).1), .bool ((rdN s.data.toList m).2)]) := readNumber_q s m hs
theorem impl_within_spec  (n : Int) (low : Int) (high : Int) : FnSpec Tryd.prog 25 [.int .i64 n, .int .i64 low, .int .i64 high] [] (.bool (inR n low high)) [] := by
 refine FnSpec.of 15 Tryd.func25 rfl Tryd.ntmps25 (by simp) (AW.weakK ?_)
 refine AW.q 1 ?_
 refine AW.r ?_
 refine At.a 4 ?_
 by_cases h1 : n ≥ low
 · refine At.sB 10 _ _ (sayT h1) ?_
   refine At.z 5 ?_
   refine AW.ret ?_
   refine ⟨_, Sub.refl _ _, ?_⟩
   refine KF.conv (fun w => .bool w) (fun w => []) (show (decide (n ≤ high)) = (inR n low high) from by simp [inR, *]) ?_
   exact KF.n []
 refine At.sB 10 _ _ (sayF h1) ?_
 refine At.z 5 ?_
 refine AW.ret ?_
 refine ⟨_, Sub.refl _ _, ?_⟩
 refine KF.conv (fun w => .bool w) (fun w => []) (show (false) = (inR n low high) from by simp [inR, *]) ?_
 exact KF.n []
def K_impl_OnOk (rs : List ResultVar) (o : On) (w0_ : Bool) : Exit → Sg → Prop := KF Tryd.prog 0 rs (.bool w0_) []
theorem impl_OnOk_spec  (o : On) : FnSpec Tryd.prog 13 [.agg [.int .i64 o.kind, .int .i64 o.day, .int .i64 o.week]] [] (.bool (onOk o)) [] := by
 refine FnSpec.of 38 Tryd.func13 rfl Tryd.ntmps13 (by simp) (AW.weakK ?_)
 refine AW.q 2 ?_
 refine AW.seq ?_
 refine AW.q 2 ?_
 refine AW.block ?_
 refine AW.q 2 ?_
 refine AW.cE o.kind (1 : Int) (fun h1 => ?_) (fun h1 => ?_)
 · refine AW.r ?_
   refine At.a 2 ?_
   refine At.c (impl_within_spec  o.day 1 31 ) Tryd.call25 true [] [] [] trivial ?_
   refine At.a 1 ?_
   by_cases h2 : (inR o.day 1 31) = true
   · refine At.sB 10 (inR o.day 1 31) true (sayB h2) ?_
     have h2i := inR_iff.1 h2
     refine At.z 5 ?_
     exact AW.ret (rf (k1 (K_impl_OnOk _ o) (show (o.week == 0) = (onOk o) from by simp [onOk, *]; done) (KF.n [])))
   refine At.sB 10 (inR o.day 1 31) false (sayB (Bool.eq_false_iff.2 h2)) ?_
   replace h2 := Bool.eq_false_iff.2 h2
   refine At.z 5 ?_
   exact AW.ret (rf (k1 (K_impl_OnOk _ o) (show (false) = (onOk o) from by simp [onOk, *]; done) (KF.n [])))
 refine AW.q 2 ?_
 refine AW.cE o.kind (2 : Int) (fun h3 => ?_) (fun h3 => ?_)
 · refine AW.r ?_
   refine At.a 4 ?_
   by_cases h4 : o.day = 0
   · refine At.sB 20 _ _ (sayET h4) ?_
     refine At.a 2 ?_
     refine At.c (impl_within_spec  o.week 0 6 ) Tryd.call25 true [] [] [] trivial ?_
     refine At.z 2 ?_
     exact AW.ret (rf (k1 (K_impl_OnOk _ o) (show (inR o.week 0 6) = (onOk o) from by simp [onOk, *]; done) (KF.n [])))
   refine At.sB 20 _ _ (sayEF h4) ?_
   refine At.z 5 ?_
   exact AW.ret (rf (k1 (K_impl_OnOk _ o) (show (false) = (onOk o) from by simp [onOk, *]; done) (KF.n [])))
 refine AW.skip ?_
 refine AW.r ?_
 refine At.a 4 ?_
 by_cases h5 : o.kind = 3
 · refine At.sB 28 _ _ (sayET h5) ?_
   refine At.a 2 ?_
   refine At.c (impl_within_spec  o.day 1 31 ) Tryd.call25 true [] [] [] trivial ?_
   refine At.a 2 ?_
   by_cases h6 : (inR o.day 1 31) = true
   · refine At.sB 33 (inR o.day 1 31) true (sayB h6) ?_
     have h6i := inR_iff.1 h6
     refine At.a 2 ?_
     refine At.c (impl_within_spec  o.week 0 6 ) Tryd.call25 true [] [] [] trivial ?_
     refine At.z 2 ?_
     exact AW.ret (rf (k1 (K_impl_OnOk _ o) (show (inR o.week 0 6) = (onOk o) from by simp [onOk, *]; done) (KF.n [])))
   refine At.sB 33 (inR o.day 1 31) false (sayB (Bool.eq_false_iff.2 h6)) ?_
   replace h6 := Bool.eq_false_iff.2 h6
   refine At.z 5 ?_
   exact AW.ret (rf (k1 (K_impl_OnOk _ o) (show (false) = (onOk o) from by simp [onOk, *]; done) (KF.n [])))
 refine At.sB 28 _ _ (sayEF h5) ?_
 refine At.z 10 ?_
 exact AW.ret (rf (k1 (K_impl_OnOk _ o) (show (false) = (onOk o) from by simp [onOk, *]; done) (KF.n [])))
theorem impl_digits_spec  (n : Int) (hn : -9223372036854775808 ≤ n ∧ n ≤ 9223372036854775807) : FnSpecQ GB Tryd.prog 20 [.int .i64 n] (.str (strOf (Lib.itoa n))) := digits_q n hn
theorem impl_OnText_spec  (o : On) (ho : (-9223372036854775808 ≤ o.day ∧ o.day ≤ 9223372036854775807) ∧ (-9223372036854775808 ≤ o.week ∧ o.week ≤ 9223372036854775807)) : FnSpecQ GB Tryd.prog 10 [.agg [.int .i64 o.kind, .int .i64 o.day, .int .i64 o.week]] (.str (strOf (txO o))) := by
 have hl1 : (⟨#[108, 97, 115, 116]⟩ : ByteArray).size = 4 := rfl
 have hl2 : (⟨#[62, 61]⟩ : ByteArray).size = 2 := rfl
 have hid := Lib.itoa_length_le o.day (by omega) (by omega)
 have hiw := Lib.itoa_length_le o.week (by omega) (by omega)
 refine FnSpecQ.of 27 Tryd.func10 rfl Tryd.ntmps10 (by simp) (AW.weakK ?_)
 refine AW.q 2 ?_
 refine AW.seq ?_
 refine AW.r ?_
 refine At.a 1 ?_
 refine At.c (impl_OnOk_spec  o ) Tryd.call13 true [] [] [] trivial ?_
 refine At.z 1 ?_
 refine AW.cNB (onOk o) (fun h1 => ?_) (fun h1 => ?_)
 · refine AW.q 1 ?_
   refine AW.ret ?_
   refine ⟨_, Sub.refl _ _, ?_⟩
   refine KF.conv (fun w => .str w) (fun w => []) (show ((⟨#[]⟩ : ByteArray)) = (strOf (txO o)) from by exact tx_no (by assumption)) ?_
   exact KF.n []
 refine AW.skip ?_
 refine AW.seq ?_
 refine AW.q 2 ?_
 refine AW.block ?_
 refine AW.q 2 ?_
 refine AW.cE o.kind (1 : Int) (fun h2 => ?_) (fun h2 => ?_)
 · refine AW.r ?_
   refine At.a 2 ?_
   refine At.callQ glLasts rfl (impl_digits_spec  o.day (by omega)) Tryd.call20 true [] [] [] (by kernel_rfl) (by kernel_rfl) (by kernel_rfl) (by kernel_rfl) (by kernel_rfl) trivial ?_
   refine At.z 1 ?_
   refine AW.ret ?_
   refine ⟨_, Sub.refl _ _, ?_⟩
   refine KF.conv (fun w => .str w) (fun w => []) (show (strOf (Lib.itoa o.day)) = (strOf (txO o)) from by exact tx_1 (by assumption) (by assumption)) ?_
   exact KF.n []
 refine AW.q 2 ?_
 refine AW.cE o.kind (2 : Int) (fun h3 => ?_) (fun h3 => ?_)
 · refine AW.r ?_
   refine At.a 2 ?_
   refine At.callQ glLasts rfl (impl_digits_spec  o.week (by omega)) Tryd.call20 true [] [] [] (by kernel_rfl) (by kernel_rfl) (by kernel_rfl) (by kernel_rfl) (by kernel_rfl) trivial ?_
   refine At.cat (t := 9) (u := 9) (d := 18) (x := .const (.string ⟨#[108, 97, 115, 116]⟩)) (y := .tmp 17) (a := (⟨#[108, 97, 115, 116]⟩ : ByteArray)) (b := strOf (Lib.itoa o.week)) (by kernel_rfl) (by kernel_rfl) (by kernel_rfl) (by kernel_rfl) (by simp only [cat_size, strOf_size]; omega) ?_
   refine At.z 1 ?_
   refine AW.ret ?_
   refine ⟨_, Sub.refl _ _, ?_⟩
   refine KF.conv (fun w => .str w) (fun w => []) (show ((⟨#[108, 97, 115, 116]⟩ : ByteArray) ++ (strOf (Lib.itoa o.week))) = (strOf (txO o)) from by exact tx_2 (by assumption) (by assumption) (by assumption)) ?_
   exact KF.n []
 refine AW.skip ?_
 refine AW.seq ?_
 refine AW.gD Tryd_mix ?_
 refine At.a 2 ?_
 refine At.callQ glLasts rfl (impl_digits_spec  o.week (by omega)) Tryd.call20 true [] [] [] (by kernel_rfl) (by kernel_rfl) (by kernel_rfl) (by kernel_rfl) (by kernel_rfl) trivial ?_
 refine At.cat (t := 9) (u := 9) (d := 22) (x := .tmp 21) (y := .const (.string ⟨#[62, 61]⟩)) (a := strOf (Lib.itoa o.week)) (b := (⟨#[62, 61]⟩ : ByteArray)) (by kernel_rfl) (by kernel_rfl) (by kernel_rfl) (by kernel_rfl) (by simp only [cat_size, strOf_size]; omega) ?_
 refine At.a 2 ?_
 refine At.callQ glLasts rfl (impl_digits_spec  o.day (by omega)) Tryd.call20 true [] [] [] (by kernel_rfl) (by kernel_rfl) (by kernel_rfl) (by kernel_rfl) (by kernel_rfl) trivial ?_
 refine At.cat (t := 9) (u := 9) (d := 26) (x := .tmp 22) (y := .tmp 25) (a := (strOf (Lib.itoa o.week)) ++ (⟨#[62, 61]⟩ : ByteArray)) (b := strOf (Lib.itoa o.day)) (by kernel_rfl) (by kernel_rfl) (by kernel_rfl) (by kernel_rfl) (by simp only [cat_size, strOf_size]; omega) ?_
 refine At.zD 1 ?_
 refine AW.ret ?_
 refine ⟨_, Sub.refl _ _, ?_⟩
 refine KF.conv (fun w => .str w) (fun w => []) (show (((strOf (Lib.itoa o.week)) ++ (⟨#[62, 61]⟩ : ByteArray)) ++ (strOf (Lib.itoa o.day))) = (strOf (txO o)) from by exact tx_3 (by assumption) (by assumption) (by assumption)) ?_
 exact KF.n []
def K_impl_OnRead (rs : List ResultVar) (s : ByteArray) (w0_ : On) (w1_ : Bool) : Exit → Sg → Prop := KF Tryd.prog 0 rs (.tup [.agg [.int .i64 w0_.kind, .int .i64 w0_.day, .int .i64 w0_.week], .bool w1_]) []
theorem impl_OnRead_spec  (s : ByteArray) (hs : s.size ≤ 1048576) : FnSpecQ GB Tryd.prog 6 [.str s] (.tup [.agg [.int .i64 (((onRI s.data.toList).1).kind), .int .i64 (((onRI s.data.toList).1).day), .int .i64 (((onRI s.data.toList).1).week)], .bool ((onRI s.data.toList).2)]) := by
 refine FnSpecQ.of 62 Tryd.func6 rfl Tryd.ntmps6 (by simp) (AW.weakK ?_)
 refine AW.q 2 ?_
 refine AW.q 3 ?_
 refine AW.r ?_
 refine At.a 1 ?_
 refine At.callQ glLasts rfl (strings_CutPrefix_spec  s (⟨#[108, 97, 115, 116]⟩ : ByteArray) ) Tryd.call15 true [] [] [] (by kernel_rfl) (by kernel_rfl) (by kernel_rfl) (by kernel_rfl) (by kernel_rfl) trivial ?_
 refine At.z 5 ?_
 refine AW.r ?_
 refine At.a 1 ?_
 refine At.callQ glLasts rfl (strings_Cut_spec  s (⟨#[62, 61]⟩ : ByteArray) (by assumption)) Tryd.call16 true [] [] [] (by kernel_rfl) (by kernel_rfl) (by kernel_rfl) (by kernel_rfl) (by kernel_rfl) trivial ?_
 refine At.z 7 ?_
 refine AW.seq ?_
 refine AW.block ?_
 refine AW.q 2 ?_
 refine AW.cB (Lib.hasPrefix s.data.toList (⟨#[108, 97, 115, 116]⟩ : ByteArray).data.toList) (fun h1 => ?_) (fun h1 => ?_)
 · refine AW.q 2 ?_
   refine AW.g ?_
   refine At.a 1 ?_
   refine At.callQ glLasts rfl (impl_readNumber_spec  (strOf (Lib.trimPrefix s.data.toList (⟨#[108, 97, 115, 116]⟩ : ByteArray).data.toList)) 2 (by rw [strOf_size]; first | exact Nat.le_trans (trim_le _ _) (by rw [Array.length_toList]; exact hs) | exact Nat.le_trans (cut_le _).1 (by rw [Array.length_toList]; exact hs) | exact Nat.le_trans (cut_le _).2 (by rw [Array.length_toList]; exact hs))) Tryd.call17 true [] [] [] (by kernel_rfl) (by kernel_rfl) (by kernel_rfl) (by kernel_rfl) (by kernel_rfl) trivial ?_
   refine At.z 5 ?_
   refine AW.seq ?_
   refine AW.r ?_
   refine At.a 3 ?_
   by_cases h2 : s.toList = (⟨#[]⟩ : ByteArray).toList
   · refine At.sB 54 _ _ (sayET h2) ?_
     refine At.z 5 ?_
     refine AW.cond true (by kernel_rfl) (fun _ => ?_) (fun h => by cases h)
     refine AW.q 3 ?_
     exact AW.ret (rf (k2 (K_impl_OnRead _ s) (show ((⟨0, 0, 0⟩ : On)) = ((onRI s.data.toList).1) from by rw [ri_1 (by assumption)]; first | done | rfl) (show (false) = ((onRI s.data.toList).2) from by rw [ri_1 (by assumption)]; first | done | rfl) (KF.n [])))
   refine At.sB 54 _ _ (sayEF h2) ?_
   refine At.a 1 ?_
   refine At.callQ glLasts rfl (impl_OnText_spec  (⟨2, 0, (rdN (strOf (Lib.trimPrefix s.data.toList (⟨#[108, 97, 115, 116]⟩ : ByteArray).data.toList)).data.toList 2).1⟩ : On) ⟨by simp; done, by exact rdN_bd _ _⟩) Tryd.call10 true [] [] [] (by kernel_rfl) (by kernel_rfl) (by kernel_rfl) (by kernel_rfl) (by kernel_rfl) trivial ?_
   refine At.z 3 ?_
   refine AW.cNE ((strOf (txO (⟨2, 0, (rdN (strOf (Lib.trimPrefix s.data.toList (⟨#[108, 97, 115, 116]⟩ : ByteArray).data.toList)).data.toList 2).1⟩ : On))).toList) (s.toList) (fun h3 => ?_) (fun h3 => ?_)
   · refine AW.q 3 ?_
     exact AW.ret (rf (k2 (K_impl_OnRead _ s) (show ((⟨0, 0, 0⟩ : On)) = ((onRI s.data.toList).1) from by rw [ri_2 (by assumption) (by first | exact onO_1 (by assumption) | exact onO_2 (by assumption) (by assumption) | exact onO_3 (by assumption) (by assumption)) (by assumption)]; first | done | rfl) (show (false) = ((onRI s.data.toList).2) from by rw [ri_2 (by assumption) (by first | exact onO_1 (by assumption) | exact onO_2 (by assumption) (by assumption) | exact onO_3 (by assumption) (by assumption)) (by assumption)]; first | done | rfl) (KF.n [])))
   refine AW.skip ?_
   refine AW.q 3 ?_
   exact AW.ret (rf (k2 (K_impl_OnRead _ s) (show ((⟨2, 0, (rdN (strOf (Lib.trimPrefix s.data.toList (⟨#[108, 97, 115, 116]⟩ : ByteArray).data.toList)).data.toList 2).1⟩ : On)) = ((onRI s.data.toList).1) from by rw [ri_3 (by assumption) (by first | exact onO_1 (by assumption) | exact onO_2 (by assumption) (by assumption) | exact onO_3 (by assumption) (by assumption)) (by assumption)]; first | done | rfl) (show (true) = ((onRI s.data.toList).2) from by rw [ri_3 (by assumption) (by first | exact onO_1 (by assumption) | exact onO_2 (by assumption) (by assumption) | exact onO_3 (by assumption) (by assumption)) (by assumption)]; first | done | rfl) (KF.n [])))
 refine AW.q 2 ?_
 refine AW.cB ((Lib.cut s.data.toList (⟨#[62, 61]⟩ : ByteArray).data.toList).2.2) (fun h4 => ?_) (fun h4 => ?_)
 · refine AW.q 2 ?_
   refine AW.r ?_
   refine At.a 1 ?_
   refine At.callQ glLasts rfl (impl_readNumber_spec  (strOf (Lib.cut s.data.toList (⟨#[62, 61]⟩ : ByteArray).data.toList).1) 2 (by rw [strOf_size]; first | exact Nat.le_trans (trim_le _ _) (by rw [Array.length_toList]; exact hs) | exact Nat.le_trans (cut_le _).1 (by rw [Array.length_toList]; exact hs) | exact Nat.le_trans (cut_le _).2 (by rw [Array.length_toList]; exact hs))) Tryd.call17 true [] [] [] (by kernel_rfl) (by kernel_rfl) (by kernel_rfl) (by kernel_rfl) (by kernel_rfl) trivial ?_
   refine At.z 5 ?_
   refine AW.g ?_
   refine At.a 1 ?_
   refine At.callQ glLasts rfl (impl_readNumber_spec  (strOf (Lib.cut s.data.toList (⟨#[62, 61]⟩ : ByteArray).data.toList).2.1) 2 (by rw [strOf_size]; first | exact Nat.le_trans (trim_le _ _) (by rw [Array.length_toList]; exact hs) | exact Nat.le_trans (cut_le _).1 (by rw [Array.length_toList]; exact hs) | exact Nat.le_trans (cut_le _).2 (by rw [Array.length_toList]; exact hs))) Tryd.call17 true [] [] [] (by kernel_rfl) (by kernel_rfl) (by kernel_rfl) (by kernel_rfl) (by kernel_rfl) trivial ?_
   refine At.z 5 ?_
   refine AW.seq ?_
   refine AW.r ?_
   refine At.a 3 ?_
   by_cases h5 : s.toList = (⟨#[]⟩ : ByteArray).toList
   · refine At.sB 54 _ _ (sayET h5) ?_
     refine At.z 5 ?_
     refine AW.cond true (by kernel_rfl) (fun _ => ?_) (fun h => by cases h)
     refine AW.q 3 ?_
     exact AW.ret (rf (k2 (K_impl_OnRead _ s) (show ((⟨0, 0, 0⟩ : On)) = ((onRI s.data.toList).1) from by rw [ri_1 (by assumption)]; first | done | rfl) (show (false) = ((onRI s.data.toList).2) from by rw [ri_1 (by assumption)]; first | done | rfl) (KF.n [])))
   refine At.sB 54 _ _ (sayEF h5) ?_
   refine At.a 1 ?_
   refine At.callQ glLasts rfl (impl_OnText_spec  (⟨3, (rdN (strOf (Lib.cut s.data.toList (⟨#[62, 61]⟩ : ByteArray).data.toList).2.1).data.toList 2).1, (rdN (strOf (Lib.cut s.data.toList (⟨#[62, 61]⟩ : ByteArray).data.toList).1).data.toList 2).1⟩ : On) ⟨by exact rdN_bd _ _, by exact rdN_bd _ _⟩) Tryd.call10 true [] [] [] (by kernel_rfl) (by kernel_rfl) (by kernel_rfl) (by kernel_rfl) (by kernel_rfl) trivial ?_
   refine At.z 3 ?_
   refine AW.cNE ((strOf (txO (⟨3, (rdN (strOf (Lib.cut s.data.toList (⟨#[62, 61]⟩ : ByteArray).data.toList).2.1).data.toList 2).1, (rdN (strOf (Lib.cut s.data.toList (⟨#[62, 61]⟩ : ByteArray).data.toList).1).data.toList 2).1⟩ : On))).toList) (s.toList) (fun h6 => ?_) (fun h6 => ?_)
   · refine AW.q 3 ?_
     exact AW.ret (rf (k2 (K_impl_OnRead _ s) (show ((⟨0, 0, 0⟩ : On)) = ((onRI s.data.toList).1) from by rw [ri_2 (by assumption) (by first | exact onO_1 (by assumption) | exact onO_2 (by assumption) (by assumption) | exact onO_3 (by assumption) (by assumption)) (by assumption)]; first | done | rfl) (show (false) = ((onRI s.data.toList).2) from by rw [ri_2 (by assumption) (by first | exact onO_1 (by assumption) | exact onO_2 (by assumption) (by assumption) | exact onO_3 (by assumption) (by assumption)) (by assumption)]; first | done | rfl) (KF.n [])))
   refine AW.skip ?_
   refine AW.q 3 ?_
   exact AW.ret (rf (k2 (K_impl_OnRead _ s) (show ((⟨3, (rdN (strOf (Lib.cut s.data.toList (⟨#[62, 61]⟩ : ByteArray).data.toList).2.1).data.toList 2).1, (rdN (strOf (Lib.cut s.data.toList (⟨#[62, 61]⟩ : ByteArray).data.toList).1).data.toList 2).1⟩ : On)) = ((onRI s.data.toList).1) from by rw [ri_3 (by assumption) (by first | exact onO_1 (by assumption) | exact onO_2 (by assumption) (by assumption) | exact onO_3 (by assumption) (by assumption)) (by assumption)]; first | done | rfl) (show (true) = ((onRI s.data.toList).2) from by rw [ri_3 (by assumption) (by first | exact onO_1 (by assumption) | exact onO_2 (by assumption) (by assumption) | exact onO_3 (by assumption) (by assumption)) (by assumption)]; first | done | rfl) (KF.n [])))
 refine AW.g ?_
 refine At.a 1 ?_
 refine At.callQ glLasts rfl (impl_readNumber_spec  s 2 (by assumption)) Tryd.call17 true [] [] [] (by kernel_rfl) (by kernel_rfl) (by kernel_rfl) (by kernel_rfl) (by kernel_rfl) trivial ?_
 refine At.z 5 ?_
 refine AW.seq ?_
 refine AW.r ?_
 refine At.a 3 ?_
 by_cases h7 : s.toList = (⟨#[]⟩ : ByteArray).toList
 · refine At.sB 54 _ _ (sayET h7) ?_
   refine At.z 5 ?_
   refine AW.cond true (by kernel_rfl) (fun _ => ?_) (fun h => by cases h)
   refine AW.q 3 ?_
   exact AW.ret (rf (k2 (K_impl_OnRead _ s) (show ((⟨0, 0, 0⟩ : On)) = ((onRI s.data.toList).1) from by rw [ri_1 (by assumption)]; first | done | rfl) (show (false) = ((onRI s.data.toList).2) from by rw [ri_1 (by assumption)]; first | done | rfl) (KF.n [])))
 refine At.sB 54 _ _ (sayEF h7) ?_
 refine At.a 1 ?_
 refine At.callQ glLasts rfl (impl_OnText_spec  (⟨1, (rdN s.data.toList 2).1, 0⟩ : On) ⟨by exact rdN_bd _ _, by simp; done⟩) Tryd.call10 true [] [] [] (by kernel_rfl) (by kernel_rfl) (by kernel_rfl) (by kernel_rfl) (by kernel_rfl) trivial ?_
 refine At.z 3 ?_
 refine AW.cNE ((strOf (txO (⟨1, (rdN s.data.toList 2).1, 0⟩ : On))).toList) (s.toList) (fun h8 => ?_) (fun h8 => ?_)
 · refine AW.q 3 ?_
   exact AW.ret (rf (k2 (K_impl_OnRead _ s) (show ((⟨0, 0, 0⟩ : On)) = ((onRI s.data.toList).1) from by rw [ri_2 (by assumption) (by first | exact onO_1 (by assumption) | exact onO_2 (by assumption) (by assumption) | exact onO_3 (by assumption) (by assumption)) (by assumption)]; first | done | rfl) (show (false) = ((onRI s.data.toList).2) from by rw [ri_2 (by assumption) (by first | exact onO_1 (by assumption) | exact onO_2 (by assumption) (by assumption) | exact onO_3 (by assumption) (by assumption)) (by assumption)]; first | done | rfl) (KF.n [])))
 refine AW.skip ?_
 refine AW.q 3 ?_
 exact AW.ret (rf (k2 (K_impl_OnRead _ s) (show ((⟨1, (rdN s.data.toList 2).1, 0⟩ : On)) = ((onRI s.data.toList).1) from by rw [ri_3 (by assumption) (by first | exact onO_1 (by assumption) | exact onO_2 (by assumption) (by assumption) | exact onO_3 (by assumption) (by assumption)) (by assumption)]; first | done | rfl) (show (true) = ((onRI s.data.toList).2) from by rw [ri_3 (by assumption) (by first | exact onO_1 (by assumption) | exact onO_2 (by assumption) (by assumption) | exact onO_3 (by assumption) (by assumption)) (by assumption)]; first | done | rfl) (KF.n [])))
theorem laws_eqOn_spec  (a : On) (b : On) : FnSpec Tryd.prog 7 [.agg [.int .i64 a.kind, .int .i64 a.day, .int .i64 a.week], .agg [.int .i64 b.kind, .int .i64 b.day, .int .i64 b.week]] [] (.bool (onEq a b)) [] := by
 refine FnSpec.of 20 Tryd.func7 rfl Tryd.ntmps7 (by simp) (AW.weakK ?_)
 refine AW.q 3 ?_
 refine AW.seq ?_
 refine AW.q 5 ?_
 refine AW.cU a.kind b.kind (fun h1 => ?_) (fun h1 => ?_)
 · refine AW.q 1 ?_
   refine AW.ret ?_
   refine ⟨_, Sub.refl _ _, ?_⟩
   refine KF.conv (fun w => .bool w) (fun w => []) (show (false) = (onEq a b) from by simp [onEq, *]) ?_
   exact KF.n []
 refine AW.skip ?_
 refine AW.seq ?_
 refine AW.q 5 ?_
 refine AW.cU a.day b.day (fun h2 => ?_) (fun h2 => ?_)
 · refine AW.q 1 ?_
   refine AW.ret ?_
   refine ⟨_, Sub.refl _ _, ?_⟩
   refine KF.conv (fun w => .bool w) (fun w => []) (show (false) = (onEq a b) from by simp [onEq, *]) ?_
   exact KF.n []
 refine AW.skip ?_
 refine AW.seq ?_
 refine AW.q 5 ?_
 refine AW.cU a.week b.week (fun h3 => ?_) (fun h3 => ?_)
 · refine AW.q 1 ?_
   refine AW.ret ?_
   refine ⟨_, Sub.refl _ _, ?_⟩
   refine KF.conv (fun w => .bool w) (fun w => []) (show (false) = (onEq a b) from by simp [onEq, *]) ?_
   exact KF.n []
 refine AW.skip ?_
 refine AW.q 1 ?_
 refine AW.ret ?_
 refine ⟨_, Sub.refl _ _, ?_⟩
 refine KF.conv (fun w => .bool w) (fun w => []) (show (true) = (onEq a b) from by simp [onEq, *]) ?_
 exact KF.n []
theorem laws_FnExactOnRead_spec  (aS : ByteArray) (hl : aS.size ≤ 9223372036854775807) : FnSpecQ GB Tryd.prog 3 [.str aS] (.bool true) := by
 refine FnSpecQ.of 29 Tryd.func3 rfl Tryd.ntmps3 (by simp) (AW.weakK ?_)
 refine AW.q 1 ?_
 refine AW.seq ?_
 refine AW.q 3 ?_
 refine AW.cD ((aS.size : Int) > 1048576) (fun h1 => ?_) (fun h1 => ?_)
 · refine AW.q 1 ?_
   exact AW.ret (rf (KF.n []))
 refine AW.skip ?_
 refine AW.r ?_
 refine At.a 1 ?_
 refine At.c (spec_OnRead_spec  aS (by omega)) Tryd.call5 true [] [] [] trivial ?_
 refine At.z 6 ?_
 refine AW.r ?_
 refine At.a 1 ?_
 refine At.callQ glLasts rfl (impl_OnRead_spec  aS (by omega)) Tryd.call6 true [] [] [] (by kernel_rfl) (by kernel_rfl) (by kernel_rfl) (by kernel_rfl) (by kernel_rfl) trivial ?_
 refine At.z 6 ?_
 refine AW.seq ?_
 refine AW.r ?_
 refine At.a 2 ?_
 refine At.c (laws_eqOn_spec  ((onRI aS.data.toList).1) ((onRS aS.data.toList).1) ) Tryd.call7 true [] [] [] trivial ?_
 refine At.a 2 ?_
 by_cases h2 : (onEq ((onRI aS.data.toList).1) ((onRS aS.data.toList).1)) = true
 · refine At.sB 24 (!(onEq ((onRI aS.data.toList).1) ((onRS aS.data.toList).1))) false (sayNF (sayB h2)) ?_
   refine At.a 2 ?_
   refine At.eqB (t := 4) (u := 4) (d := 27) (op := .neq) (x := .tmp 25) (y := .tmp 26) (a := ((onRI aS.data.toList).2)) (b := ((onRS aS.data.toList).2)) (by kernel_rfl) (by kernel_rfl) (by kernel_rfl) (by kernel_rfl) (by kernel_rfl) (.bool (!(((onRI aS.data.toList).2) == ((onRS aS.data.toList).2)))) (.inr ⟨rfl, rfl⟩) ?_
   refine At.z 1 ?_
   refine AW.cNB (((onRI aS.data.toList).2) == ((onRS aS.data.toList).2)) (fun h3 => ?_) (fun h3 => ?_)
   · refine AW.q 1 ?_
     refine AW.ret ?_
     refine ⟨_, Sub.refl _ _, ?_⟩
     refine KF.conv (fun w => .bool w) (fun w => []) (show (false) = (true) from by exfalso; simp [onR_eq, onEq_refl] at *) ?_
     exact KF.n []
   refine AW.skip ?_
   refine AW.q 1 ?_
   exact AW.ret (rf (KF.n []))
 refine At.sB 24 (!(onEq ((onRI aS.data.toList).1) ((onRS aS.data.toList).1))) true (sayNT (sayB (Bool.eq_false_iff.2 h2))) ?_
 replace h2 := Bool.eq_false_iff.2 h2
 refine At.z 4 ?_
 refine AW.cond true (by kernel_rfl) (fun _ => ?_) (fun h => by cases h)
 refine AW.q 1 ?_
 refine AW.ret ?_
 refine ⟨_, Sub.refl _ _, ?_⟩
 refine KF.conv (fun w => .bool w) (fun w => []) (show (false) = (true) from by exfalso; simp [onR_eq, onEq_refl] at *) ?_
 exact KF.n []
end Go.Proofs.YthklhfcjglimiaaDoor
