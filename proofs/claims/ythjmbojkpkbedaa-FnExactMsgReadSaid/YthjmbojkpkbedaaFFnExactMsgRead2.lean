/- The contracts of the functions that FnExactMsgRead reaches (each: what it answers, said over values), printed by a program of this session (wip/sy/g/gen.py). -/
import Derived.Test.YthjmbojkpkbedaaFFnExactMsgRead1
set_option linter.unusedVariables false
set_option linter.unusedSimpArgs false
set_option maxRecDepth 100000
set_option maxHeartbeats 4000000
namespace Go.Proofs.Ythjmbojkpkbedaa
open Go Go.Sy Go.Proofs
def K_impl_Unseal (rs : List ResultVar) (b : List UInt8) (at_ : Int) (w0_ : List UInt8) (w1_ : Int) (w2_ : Int) : Exit → Sg → Prop := KF Try.prog 0 rs (.tup [.ref 0, .int .i64 w1_, .int .i64 w2_]) [.arr 5 1 (w0_.map encU8)]
theorem impl_Unseal_spec  (b : List UInt8) (at_ : Int) (hb : b.length ≤ 1048576) (ha : 0 ≤ at_ ∧ at_ ≤ 1048576) : FnSpec Try.prog 45 [.sl false 1 (b.map encU8), .int .i64 at_] [] (.tup [.ref 0, .int .i64 ((unsealB b at_).2.1), .int .i64 ((unsealB b at_).2.2)]) [.arr 5 1 (((unsealB b at_).1).map encU8)] := by
 have hgn := getN_num b (at_ := at_)
 have hx1 : ((getN b at_).2.1 + (getN b at_).1).toNat - (getN b at_).2.1.toNat = (getN b at_).1.toNat := by omega
 have hx2 : ((getN b at_).2.1 + (getN b at_).1 + 4).toNat - ((getN b at_).2.1 + (getN b at_).1).toNat = 4 := by omega
 refine FnSpec.of 59 Try.func45 rfl Try.ntmps45 (by simp) (AW.weakK ?_)
 refine AW.q 3 ?_
 refine AW.r ?_
 refine At.a 2 ?_
 refine At.c (impl_GetNum_spec  b at_ hb (by omega)) Try.call76 true [] [] [] trivial ?_
 refine At.z 7 ?_
 refine AW.seq ?_
 refine AW.block ?_
 refine AW.r ?_
 refine At.a 3 ?_
 by_cases h1 : ((getN b at_).2.2) = true
 · refine At.sB 22 (!((getN b at_).2.2)) false (sayNF (sayB h1)) ?_
   refine At.z 4 ?_
   refine AW.cD (((getN b at_).1) > 3000) (fun h2 => ?_) (fun h2 => ?_)
   · refine AW.q 3 ?_
     refine AW.ret ?_
     refine ⟨_, Sub.nils [⟨false, 4, none, 5001, 5, 1⟩] (by kernel_rfl), ?_⟩
     exact k3 (K_impl_Unseal _ b at_) (show ([]) = ((unsealB b at_).1) from by rw [unseal_big (by assumption)]) (show (0) = ((unsealB b at_).2.1) from by rw [unseal_big (by assumption)]) (show (1) = ((unsealB b at_).2.2) from by rw [unseal_big (by assumption)]) (KF.n [(5001, 0)])
   refine AW.r ?_
   refine At.a 2 ?_
   refine At.sI 28 (((getN b at_).1) + 4) (by omega) ?_
   refine At.a 2 ?_
   refine At.sL 30 encU8 b ?_
   refine At.a 2 ?_
   refine At.sI 32 ((b.length : Int) - ((getN b at_).2.1)) (by omega) ?_
   refine At.z 2 ?_
   refine AW.cD ((((getN b at_).1) + 4) > ((b.length : Int) - ((getN b at_).2.1))) (fun h3 => ?_) (fun h3 => ?_)
   · refine AW.q 3 ?_
     refine AW.ret ?_
     refine ⟨_, Sub.nils [⟨false, 4, none, 5002, 5, 1⟩] (by kernel_rfl), ?_⟩
     exact k3 (K_impl_Unseal _ b at_) (show ([]) = ((unsealB b at_).1) from by rw [unseal_short' (by assumption) (by assumption) (by omega)]) (show (0) = ((unsealB b at_).2.1) from by rw [unseal_short' (by assumption) (by assumption) (by omega)]) (show (2) = ((unsealB b at_).2.2) from by rw [unseal_short' (by assumption) (by assumption) (by omega)]) (KF.n [(5002, 0)])
   refine AW.skip ?_
   refine AW.r ?_
   refine At.lit0 (t := 28) (d := 34) (e := 5) (es := 1) (bytes := 1) 134 (by kernel_rfl) (by kernel_rfl) (by kernel_rfl) (by kernel_rfl) ?_
   refine At.a 5 ?_
   refine At.sI 39 (((getN b at_).2.1) + ((getN b at_).1)) (by omega) ?_
   refine At.sliceSl (t := 28) (d := 40) (e := 5) (es := 1) (x := .tmp 35) (lx := some (.tmp 36)) (hx := some (.tmp 39)) (p := false) (xs := (b.map encU8)) (vl := .int .i64 ((getN b at_).2.1)) (vh := .int .i64 (((getN b at_).2.1) + ((getN b at_).1))) (((getN b at_).2.1).toNat) ((((getN b at_).2.1) + ((getN b at_).1)).toNat) (((b.drop (((getN b at_).2.1).toNat)).take (((((getN b at_).2.1) + ((getN b at_).1)).toNat) - (((getN b at_).2.1).toNat))).map encU8) (by kernel_rfl) (by kernel_rfl) (by kernel_rfl) (by kernel_rfl) (.inr ⟨_, _, rfl, sayNat (by omega)⟩) (.inr ⟨_, _, rfl, sayNat (by omega)⟩) (by omega) (by simp only [List.length_map]; omega) (by simp [List.map_take, List.map_drop]) ?_
   refine At.append (t := 28) (d := 41) (e := 5) (es := 1) (bytes := 1) (s := .tmp 34) (x := .tmp 40) (S := .ref 134) (T := .sl false 1 (((b.drop (((getN b at_).2.1).toNat)).take (((((getN b at_).2.1) + ((getN b at_).1)).toNat) - (((getN b at_).2.1).toNat))).map encU8)) (xs := []) (ys := (((b.drop (((getN b at_).2.1).toNat)).take (((((getN b at_).2.1) + ((getN b at_).1)).toNat) - (((getN b at_).2.1).toNat))).map encU8)) 141 [134] [] (((b.drop (((getN b at_).2.1).toNat)).take (((((getN b at_).2.1) + ((getN b at_).1)).toNat) - (((getN b at_).2.1).toNat))).map encU8) (by kernel_rfl) (by kernel_rfl) (by kernel_rfl) (by kernel_rfl) ⟨by kernel_rfl, rfl⟩ ⟨rfl, rfl, (allP_encU8 _), rfl⟩ (by kernel_rfl) (by kernel_rfl) (by simp) (by simp only [List.length_map, List.length_append, List.length_take, List.length_drop, List.length_replicate, List.length_set, List.length_cons, List.length_nil]; omega) (by simp only [List.length_map, List.length_append, List.length_take, List.length_drop, List.length_replicate, List.length_set, List.length_cons, List.length_nil]; omega) ?_
   refine At.z 1 ?_
   refine AW.r ?_
   refine At.a 3 ?_
   refine At.sI 44 (((getN b at_).2.1) + ((getN b at_).1)) (by omega) ?_
   refine At.a 1 ?_
   refine At.sI 45 ((((getN b at_).2.1) + ((getN b at_).1)) + 4) (by omega) ?_
   refine At.z 1 ?_
   refine AW.seq ?_
   refine AW.seq ?_
   refine AW.gD Try_mix ?_
   refine At.a 4 ?_
   refine At.sI 49 (((getN b at_).2.1) + ((getN b at_).1)) (by omega) ?_
   refine At.a 1 ?_
   refine At.sliceSl (t := 28) (d := 51) (e := 5) (es := 1) (x := .tmp 46) (lx := some (.tmp 49)) (hx := some (.tmp 50)) (p := false) (xs := (b.map encU8)) (vl := .int .i64 (((getN b at_).2.1) + ((getN b at_).1))) (vh := .int .i64 ((((getN b at_).2.1) + ((getN b at_).1)) + 4)) ((((getN b at_).2.1) + ((getN b at_).1)).toNat) (((((getN b at_).2.1) + ((getN b at_).1)) + 4).toNat) (((b.drop ((((getN b at_).2.1) + ((getN b at_).1)).toNat)).take ((((((getN b at_).2.1) + ((getN b at_).1)) + 4).toNat) - ((((getN b at_).2.1) + ((getN b at_).1)).toNat))).map encU8) (by kernel_rfl) (by kernel_rfl) (by kernel_rfl) (by kernel_rfl) (.inr ⟨_, _, rfl, sayNat (by omega)⟩) (.inr ⟨_, _, rfl, sayNat (by omega)⟩) (by omega) (by simp only [List.length_map]; omega) (by simp [List.map_take, List.map_drop]) ?_
   refine At.b2s (s := 28) (t := 9) (e := 5) (d := 52) (x := .tmp 51) (T := .sl false 1 (((b.drop ((((getN b at_).2.1) + ((getN b at_).1)).toNat)).take ((((((getN b at_).2.1) + ((getN b at_).1)) + 4).toNat) - ((((getN b at_).2.1) + ((getN b at_).1)).toNat))).map encU8)) ((b.drop ((((getN b at_).2.1) + ((getN b at_).1)).toNat)).take ((((((getN b at_).2.1) + ((getN b at_).1)) + 4).toNat) - ((((getN b at_).2.1) + ((getN b at_).1)).toNat))) [] (by kernel_rfl) (by kernel_rfl) (by kernel_rfl) (by kernel_rfl) ⟨rfl, rfl, (allP_encU8 _), rfl⟩ ?_
   refine At.a 1 ?_
   refine At.c (impl_sumBytes_spec  ((b.drop (((getN b at_).2.1).toNat)).take (((((getN b at_).2.1) + ((getN b at_).1)).toNat) - (((getN b at_).2.1).toNat))) (by simp only [List.length_take, List.length_drop]; omega)) Try.call70 false [] [(2080, 0)] [(141, 1, (((b.drop (((getN b at_).2.1).toNat)).take (((((getN b at_).2.1) + ((getN b at_).1)).toNat) - (((getN b at_).2.1).toNat))).map encU8))] ⟨rfl, ⟨5, (((b.drop (((getN b at_).2.1).toNat)).take (((((getN b at_).2.1) + ((getN b at_).1)).toNat) - (((getN b at_).2.1).toNat))).map encU8), by kernel_rfl, FrzIs.same (allP_encU8 _)⟩, trivial⟩ ?_
   refine At.b2s (s := 28) (t := 9) (e := 5) (d := 55) (x := .tmp 54) (T := .ref 2080) (sum4 (sumB ((b.drop (((getN b at_).2.1).toNat)).take (((((getN b at_).2.1) + ((getN b at_).1)).toNat) - (((getN b at_).2.1).toNat))))) [] (by kernel_rfl) (by kernel_rfl) (by kernel_rfl) (by kernel_rfl) ⟨by kernel_rfl, .inl ⟨rfl, (allP_encU8 _)⟩⟩ ?_
   refine At.zD 1 ?_
   refine AW.cNE ((strOf ((b.drop ((((getN b at_).2.1) + ((getN b at_).1)).toNat)).take ((((((getN b at_).2.1) + ((getN b at_).1)) + 4).toNat) - ((((getN b at_).2.1) + ((getN b at_).1)).toNat)))).toList) ((strOf (sum4 (sumB ((b.drop (((getN b at_).2.1).toNat)).take (((((getN b at_).2.1) + ((getN b at_).1)).toNat) - (((getN b at_).2.1).toNat)))))).toList) (fun h4 => ?_) (fun h4 => ?_)
   · refine AW.q 3 ?_
     refine AW.ret ?_
     refine ⟨_, Sub.nils [⟨false, 4, none, 5003, 5, 1⟩] (by kernel_rfl), ?_⟩
     exact k3 (K_impl_Unseal _ b at_) (show ([]) = ((unsealB b at_).1) from by rw [unseal_sum' h1 h2 (by omega) rfl (by have q := h4; rw [strOf_list, strOf_list, hx1, hx2] at q; exact fun e => q e.symm)]; first | done | rfl | (rw [hx1]; done) | (rw [hx1]; rfl)) (show (0) = ((unsealB b at_).2.1) from by rw [unseal_sum' h1 h2 (by omega) rfl (by have q := h4; rw [strOf_list, strOf_list, hx1, hx2] at q; exact fun e => q e.symm)]; first | done | rfl | (rw [hx1]; done) | (rw [hx1]; rfl)) (show (3) = ((unsealB b at_).2.2) from by rw [unseal_sum' h1 h2 (by omega) rfl (by have q := h4; rw [strOf_list, strOf_list, hx1, hx2] at q; exact fun e => q e.symm)]; first | done | rfl | (rw [hx1]; done) | (rw [hx1]; rfl)) (KF.n [(5003, 0)])
   refine AW.skip ?_
   refine AW.q 5 ?_
   exact AW.ret (rf (k3 (K_impl_Unseal _ b at_) (show ((b.drop (((getN b at_).2.1).toNat)).take (((((getN b at_).2.1) + ((getN b at_).1)).toNat) - (((getN b at_).2.1).toNat))) = ((unsealB b at_).1) from by rw [unseal_yes' h1 h2 (by omega) rfl (by have q := h4; rw [strOf_list, strOf_list, hx1, hx2] at q; exact q.symm)]; first | done | rfl | (rw [hx1]; done) | (rw [hx1]; rfl)) (show ((((getN b at_).2.1) + ((getN b at_).1)) + 4) = ((unsealB b at_).2.1) from by rw [unseal_yes' h1 h2 (by omega) rfl (by have q := h4; rw [strOf_list, strOf_list, hx1, hx2] at q; exact q.symm)]; first | done | rfl | (rw [hx1]; done) | (rw [hx1]; rfl)) (show (0) = ((unsealB b at_).2.2) from by rw [unseal_yes' h1 h2 (by omega) rfl (by have q := h4; rw [strOf_list, strOf_list, hx1, hx2] at q; exact q.symm)]; first | done | rfl | (rw [hx1]; done) | (rw [hx1]; rfl)) (KF.n [(141, 0)])))
 refine At.sB 22 (!((getN b at_).2.2)) true (sayNT (sayB (Bool.eq_false_iff.2 h1))) ?_
 replace h1 := Bool.eq_false_iff.2 h1
 refine At.z 4 ?_
 refine AW.cond true (by kernel_rfl) (fun _ => ?_) (fun h => by cases h)
 refine AW.q 3 ?_
 refine AW.ret ?_
 refine ⟨_, Sub.nils [⟨false, 4, none, 5004, 5, 1⟩] (by kernel_rfl), ?_⟩
 exact k3 (K_impl_Unseal _ b at_) (show ([]) = ((unsealB b at_).1) from by rw [unseal_no (by assumption)]) (show (0) = ((unsealB b at_).2.1) from by rw [unseal_no (by assumption)]) (show (1) = ((unsealB b at_).2.2) from by rw [unseal_no (by assumption)]) (KF.n [(5004, 0)])
def K_impl_reader_num (rs : List ResultVar) (r : Rd) (w0_ : Int) (w1_ : Rd) : Exit → Sg → Prop := KF Try.prog 1 rs (.int .i64 w0_) [.box 70 [.sl false 1 (w1_.b.map encU8), .int .i64 w1_.at_, .bool w1_.bad]]
theorem impl_reader_num_spec  (r : Rd) (hr : RdOk r) : FnSpec Try.prog 46 [.ptr 0 0 0] [.box 70 [.sl false 1 (r.b.map encU8), .int .i64 r.at_, .bool r.bad]] (.int .i64 ((rdNum r).2)) [.box 70 [.sl false 1 ((((rdNum r).1).b).map encU8), .int .i64 (((rdNum r).1).at_), .bool (((rdNum r).1).bad)]] := by
 obtain ⟨r1, r2, r3⟩ := id hr
 have hgn := getN_num r.b (at_ := r.at_)
 refine FnSpec.of 35 Try.func46 rfl Try.ntmps46 (by simp) (AW.weakK ?_)
 refine AW.q 1 ?_
 refine AW.seq ?_
 refine AW.gD Try_mix ?_
 refine At.a 8 ?_
 refine At.c (impl_GetNum_spec  r.b r.at_ r1 (by omega)) Try.call76 true [] [] [] trivial ?_
 refine At.zD 7 ?_
 refine AW.seq ?_
 refine AW.r ?_
 refine At.a 5 ?_
 by_cases h1 : r.bad = true
 · refine At.sB 23 r.bad true (sayB h1) ?_
   refine At.z 3 ?_
   refine AW.cond true (by kernel_rfl) (fun _ => ?_) (fun h => by cases h)
   refine AW.q 4 ?_
   refine AW.q 1 ?_
   exact AW.ret (rf (k2 (K_impl_reader_num _ r) (show (0) = ((rdNum r).2) from by simp [rdNum, h1]) (show ((⟨r.b, r.at_, true⟩ : Rd)) = ((rdNum r).1) from by simp [rdNum, h1]) (KF.n [(0, 0)])))
 refine At.sB 23 r.bad false (sayB (Bool.eq_false_iff.2 h1)) ?_
 replace h1 := Bool.eq_false_iff.2 h1
 refine At.z 3 ?_
 refine AW.cNB ((getN r.b r.at_).2.2) (fun h2 => ?_) (fun h2 => ?_)
 · refine AW.q 4 ?_
   refine AW.q 1 ?_
   exact AW.ret (rf (k2 (K_impl_reader_num _ r) (show (0) = ((rdNum r).2) from by simp [rdNum, h1, h2]) (show ((⟨r.b, r.at_, true⟩ : Rd)) = ((rdNum r).1) from by simp [rdNum, h1, h2]) (KF.n [(0, 0)])))
 refine AW.skip ?_
 refine AW.q 5 ?_
 refine AW.q 2 ?_
 exact AW.ret (rf (k2 (K_impl_reader_num _ r) (show ((getN r.b r.at_).1) = ((rdNum r).2) from by simp [rdNum, h1, h2]) (show ((⟨r.b, (getN r.b r.at_).2.1, r.bad⟩ : Rd)) = ((rdNum r).1) from by simp [rdNum, h1, h2]) (KF.n [(0, 0)])))
theorem impl_fieldsOf_spec  (kind : Int) : FnSpec Try.prog 37 [.int .i64 kind] [] (.str (fieldsL kind)) [] := by
 refine FnSpec.of 18 Try.func37 rfl Try.ntmps37 (by simp) (AW.weakK ?_)
 refine AW.q 1 ?_
 refine AW.seq ?_
 refine AW.q 1 ?_
 refine AW.block ?_
 refine AW.q 2 ?_
 refine AW.cE kind (1 : Int) (fun h1 => ?_) (fun h1 => ?_)
 · refine AW.q 1 ?_
   refine AW.ret ?_
   refine ⟨_, Sub.refl _ _, ?_⟩
   refine KF.conv (fun w => .str w) (fun w => []) (show ((⟨#[102, 116, 97, 120]⟩ : ByteArray)) = (fieldsL kind) from by simp [fieldsL, h1]) ?_
   exact KF.n []
 refine AW.q 2 ?_
 refine AW.cE kind (2 : Int) (fun h2 => ?_) (fun h2 => ?_)
 · refine AW.q 1 ?_
   refine AW.ret ?_
   refine ⟨_, Sub.refl _ _, ?_⟩
   refine KF.conv (fun w => .str w) (fun w => []) (show ((⟨#[102, 116, 121]⟩ : ByteArray)) = (fieldsL kind) from by simp [fieldsL, h1, h2]) ?_
   exact KF.n []
 refine AW.q 2 ?_
 refine AW.cE kind (3 : Int) (fun h3 => ?_) (fun h3 => ?_)
 · refine AW.q 1 ?_
   refine AW.ret ?_
   refine ⟨_, Sub.refl _ _, ?_⟩
   refine KF.conv (fun w => .str w) (fun w => []) (show ((⟨#[102, 116, 97, 120, 99, 101]⟩ : ByteArray)) = (fieldsL kind) from by simp [fieldsL, h1, h2, h3]) ?_
   exact KF.n []
 refine AW.q 2 ?_
 refine AW.cE kind (4 : Int) (fun h4 => ?_) (fun h4 => ?_)
 · refine AW.q 1 ?_
   refine AW.ret ?_
   refine ⟨_, Sub.refl _ _, ?_⟩
   refine KF.conv (fun w => .str w) (fun w => []) (show ((⟨#[102, 116, 121, 97]⟩ : ByteArray)) = (fieldsL kind) from by simp [fieldsL, h1, h2, h3, h4]) ?_
   exact KF.n []
 refine AW.q 2 ?_
 refine AW.cE kind (5 : Int) (fun h5 => ?_) (fun h5 => ?_)
 · refine AW.q 1 ?_
   refine AW.ret ?_
   refine ⟨_, Sub.refl _ _, ?_⟩
   refine KF.conv (fun w => .str w) (fun w => []) (show ((⟨#[102, 114, 112]⟩ : ByteArray)) = (fieldsL kind) from by simp [fieldsL, h1, h2, h3, h4, h5]) ?_
   exact KF.n []
 refine AW.q 2 ?_
 refine AW.cE kind (6 : Int) (fun h6 => ?_) (fun h6 => ?_)
 · refine AW.q 1 ?_
   refine AW.ret ?_
   refine ⟨_, Sub.refl _ _, ?_⟩
   refine KF.conv (fun w => .str w) (fun w => []) (show ((⟨#[102, 114, 112, 98]⟩ : ByteArray)) = (fieldsL kind) from by simp [fieldsL, h1, h2, h3, h4, h5, h6]) ?_
   exact KF.n []
 refine AW.q 2 ?_
 refine AW.cE kind (7 : Int) (fun h7 => ?_) (fun h7 => ?_)
 · refine AW.q 1 ?_
   refine AW.ret ?_
   refine ⟨_, Sub.refl _ _, ?_⟩
   refine KF.conv (fun w => .str w) (fun w => []) (show ((⟨#[102, 100]⟩ : ByteArray)) = (fieldsL kind) from by simp [fieldsL, h1, h2, h3, h4, h5, h6, h7]) ?_
   exact KF.n []
 refine AW.skip ?_
 refine AW.q 1 ?_
 refine AW.ret ?_
 refine ⟨_, Sub.refl _ _, ?_⟩
 refine KF.conv (fun w => .str w) (fun w => []) (show ((⟨#[]⟩ : ByteArray)) = (fieldsL kind) from by simp [fieldsL, h1, h2, h3, h4, h5, h6, h7]) ?_
 exact KF.n []
def K_impl_reader_bytes (rs : List ResultVar) (r : Rd) (n : Int) (w0_ : ByteArray) (w1_ : Rd) : Exit → Sg → Prop := KF Try.prog 1 rs (.str w0_) [.box 70 [.sl false 1 (w1_.b.map encU8), .int .i64 w1_.at_, .bool w1_.bad]]
theorem impl_reader_bytes_spec  (r : Rd) (n : Int) (hr : RdOk r) (hn : 0 ≤ n) : FnSpec Try.prog 92 [.ptr 0 0 0, .int .i64 n] [.box 70 [.sl false 1 (r.b.map encU8), .int .i64 r.at_, .bool r.bad]] (.str ((rdBytes r n).2)) [.box 70 [.sl false 1 ((((rdBytes r n).1).b).map encU8), .int .i64 (((rdBytes r n).1).at_), .bool (((rdBytes r n).1).bad)]] := by
 obtain ⟨r1, r2, r3⟩ := id hr
 have hgn := getN_num r.b (at_ := r.at_)
 refine FnSpec.of 50 Try.func92 rfl Try.ntmps92 (by simp) (AW.weakK ?_)
 refine AW.q 1 ?_
 refine AW.seq ?_
 refine AW.seq ?_
 refine AW.gD Try_mix ?_
 refine At.a 5 ?_
 by_cases h1 : r.bad = true
 · refine At.sB 9 r.bad true (sayB h1) ?_
   refine At.zD 13 ?_
   refine AW.cond true (by kernel_rfl) (fun _ => ?_) (fun h => by cases h)
   refine AW.q 4 ?_
   refine AW.q 1 ?_
   exact AW.ret (rf (k2 (K_impl_reader_bytes _ r n) (show ((⟨#[]⟩ : ByteArray)) = ((rdBytes r n).2) from by simp [rdBytes, subB, h1] <;> (rw [show (r.at_ + n).toNat - r.at_.toNat = n.toNat by omega])) (show ((⟨r.b, r.at_, true⟩ : Rd)) = ((rdBytes r n).1) from by simp [rdBytes, subB, h1] <;> (rw [show (r.at_ + n).toNat - r.at_.toNat = n.toNat by omega])) (KF.n [(0, 0)])))
 refine At.sB 9 r.bad false (sayB (Bool.eq_false_iff.2 h1)) ?_
 replace h1 := Bool.eq_false_iff.2 h1
 refine At.a 6 ?_
 refine At.sL 15 encU8 r.b ?_
 refine At.a 5 ?_
 refine At.sI 20 ((r.b.length : Int) - r.at_) (by omega) ?_
 refine At.zD 2 ?_
 refine AW.cD (n > ((r.b.length : Int) - r.at_)) (fun h2 => ?_) (fun h2 => ?_)
 · refine AW.q 4 ?_
   refine AW.q 1 ?_
   exact AW.ret (rf (k2 (K_impl_reader_bytes _ r n) (show ((⟨#[]⟩ : ByteArray)) = ((rdBytes r n).2) from by simp [rdBytes, subB, h1, h2] <;> (rw [show (r.at_ + n).toNat - r.at_.toNat = n.toNat by omega])) (show ((⟨r.b, r.at_, true⟩ : Rd)) = ((rdBytes r n).1) from by simp [rdBytes, subB, h1, h2] <;> (rw [show (r.at_ + n).toNat - r.at_.toNat = n.toNat by omega])) (KF.n [(0, 0)])))
 refine AW.skip ?_
 refine AW.r ?_
 refine At.a 6 ?_
 refine At.sI 31 (r.at_ + n) (by omega) ?_
 refine At.z 3 ?_
 refine AW.seq ?_
 refine AW.gD Try_mix ?_
 refine At.a 10 ?_
 refine At.sI 43 ((r.at_ + n) - n) (by omega) ?_
 refine At.a 4 ?_
 refine At.sliceSl (t := 28) (d := 48) (e := 5) (es := 1) (x := .tmp 37) (lx := some (.tmp 43)) (hx := some (.tmp 47)) (p := false) (xs := (r.b.map encU8)) (vl := .int .i64 ((r.at_ + n) - n)) (vh := .int .i64 (r.at_ + n)) (((r.at_ + n) - n).toNat) ((r.at_ + n).toNat) (((r.b.drop (((r.at_ + n) - n).toNat)).take (((r.at_ + n).toNat) - (((r.at_ + n) - n).toNat))).map encU8) (by kernel_rfl) (by kernel_rfl) (by kernel_rfl) (by kernel_rfl) (.inr ⟨_, _, rfl, sayNat (by omega)⟩) (.inr ⟨_, _, rfl, sayNat (by omega)⟩) (by omega) (by simp only [List.length_map]; omega) (by simp [List.map_take, List.map_drop]) ?_
 refine At.b2s (s := 28) (t := 9) (e := 5) (d := 49) (x := .tmp 48) (T := .sl false 1 (((r.b.drop (((r.at_ + n) - n).toNat)).take (((r.at_ + n).toNat) - (((r.at_ + n) - n).toNat))).map encU8)) ((r.b.drop (((r.at_ + n) - n).toNat)).take (((r.at_ + n).toNat) - (((r.at_ + n) - n).toNat))) [] (by kernel_rfl) (by kernel_rfl) (by kernel_rfl) (by kernel_rfl) ⟨rfl, rfl, (allP_encU8 _), rfl⟩ ?_
 refine At.zD 1 ?_
 exact AW.ret (rf (k2 (K_impl_reader_bytes _ r n) (show (strOf ((r.b.drop (((r.at_ + n) - n).toNat)).take (((r.at_ + n).toNat) - (((r.at_ + n) - n).toNat)))) = ((rdBytes r n).2) from by simp [rdBytes, subB, h1, h2] <;> (rw [show (r.at_ + n).toNat - r.at_.toNat = n.toNat by omega])) (show ((⟨r.b, r.at_ + n, r.bad⟩ : Rd)) = ((rdBytes r n).1) from by simp [rdBytes, subB, h1, h2] <;> (rw [show (r.at_ + n).toNat - r.at_.toNat = n.toNat by omega])) (KF.n [(0, 0)])))
def K_impl_reader_text (rs : List ResultVar) (r : Rd) (w0_ : ByteArray) (w1_ : Rd) : Exit → Sg → Prop := KF Try.prog 1 rs (.str w0_) [.box 70 [.sl false 1 (w1_.b.map encU8), .int .i64 w1_.at_, .bool w1_.bad]]
theorem impl_reader_text_spec  (r : Rd) (hr : RdOk r) : FnSpec Try.prog 77 [.ptr 0 0 0] [.box 70 [.sl false 1 (r.b.map encU8), .int .i64 r.at_, .bool r.bad]] (.str ((rdText r).2)) [.box 70 [.sl false 1 ((((rdText r).1).b).map encU8), .int .i64 (((rdText r).1).at_), .bool (((rdText r).1).bad)]] := by
 obtain ⟨r1, r2, r3⟩ := id hr
 have hgn := getN_num r.b (at_ := r.at_)
 have hn0 := rdNum_in r
 refine FnSpec.of 14 Try.func77 rfl Try.ntmps77 (by simp) (AW.weakK ?_)
 refine AW.q 1 ?_
 refine AW.r ?_
 refine At.a 1 ?_
 refine At.c (impl_reader_num_spec  r (by assumption)) Try.call46 true [(0, 0)] [] [] trivial ?_
 refine At.z 1 ?_
 refine AW.seq ?_
 refine AW.q 2 ?_
 refine AW.cD (((rdNum r).2) > 3000) (fun h1 => ?_) (fun h1 => ?_)
 · refine AW.gq 4 ?_
   refine AW.r ?_
   refine At.a 2 ?_
   refine At.c (impl_reader_bytes_spec  (⟨((rdNum r).1).b, ((rdNum r).1).at_, true⟩ : Rd) ((rdNum r).2) (by exact rdNum_ok hr) (by omega)) Try.call92 true [(0, 0)] [] [] trivial ?_
   refine At.z 1 ?_
   exact AW.ret (rf (k2 (K_impl_reader_text _ r) (show ((rdBytes (⟨((rdNum r).1).b, ((rdNum r).1).at_, true⟩ : Rd) ((rdNum r).2)).2) = ((rdText r).2) from by simp [rdText, h1]) (show (((rdBytes (⟨((rdNum r).1).b, ((rdNum r).1).at_, true⟩ : Rd) ((rdNum r).2)).1)) = ((rdText r).1) from by simp [rdText, h1]) (KF.n [(0, 0)])))
 refine AW.skip ?_
 refine AW.r ?_
 refine At.a 2 ?_
 refine At.c (impl_reader_bytes_spec  ((rdNum r).1) ((rdNum r).2) (by exact rdNum_ok hr) (by omega)) Try.call92 true [(0, 0)] [] [] trivial ?_
 refine At.z 1 ?_
 exact AW.ret (rf (k2 (K_impl_reader_text _ r) (show ((rdBytes ((rdNum r).1) ((rdNum r).2)).2) = ((rdText r).2) from by simp [rdText, h1]) (show (((rdBytes ((rdNum r).1) ((rdNum r).2)).1)) = ((rdText r).1) from by simp [rdText, h1]) (KF.n [(0, 0)])))
theorem impl_within_spec  (n : Int) (low : Int) (high : Int) : FnSpec Try.prog 85 [.int .i64 n, .int .i64 low, .int .i64 high] [] (.bool (inR n low high)) [] := by
 refine FnSpec.of 15 Try.func85 rfl Try.ntmps85 (by simp) (AW.weakK ?_)
 refine AW.q 1 ?_
 refine AW.r ?_
 refine At.a 4 ?_
 by_cases h1 : n ≥ low
 · refine At.sB 10 _ _ (sayT h1) ?_
   refine At.z 5 ?_
   refine AW.ret ?_
   refine ⟨_, Sub.refl _ _, ?_⟩
   refine KF.conv (fun w => .bool w) (fun w => []) (show (decide (n ≤ high)) = (inR n low high) from by simp [inR, *]) ?_
   exact KF.n []
 refine At.sB 10 _ _ (sayF h1) ?_
 refine At.z 5 ?_
 refine AW.ret ?_
 refine ⟨_, Sub.refl _ _, ?_⟩
 refine KF.conv (fun w => .bool w) (fun w => []) (show (false) = (inR n low high) from by simp [inR, *]) ?_
 exact KF.n []
theorem impl_isRelease_spec  (n : Int) : FnSpec Try.prog 86 [.int .i64 n] [] (.bool (inR n 1 1000)) [] := by
 refine FnSpec.of 5 Try.func86 rfl Try.ntmps86 (by simp) (AW.weakK ?_)
 refine AW.q 1 ?_
 refine AW.r ?_
 refine At.a 1 ?_
 refine At.c (impl_within_spec  n 1 1000 ) Try.call85 true [] [] [] trivial ?_
 refine At.z 1 ?_
 exact AW.ret (rf (KF.n []))
theorem impl_isSize_spec  (n : Int) : FnSpec Try.prog 87 [.int .i64 n] [] (.bool (inR n 0 1000)) [] := by
 refine FnSpec.of 5 Try.func87 rfl Try.ntmps87 (by simp) (AW.weakK ?_)
 refine AW.q 1 ?_
 refine AW.r ?_
 refine At.a 1 ?_
 refine At.c (impl_within_spec  n 0 1000 ) Try.call85 true [] [] [] trivial ?_
 refine At.z 1 ?_
 exact AW.ret (rf (KF.n []))
theorem impl_isNode_spec  (n : Int) : FnSpec Try.prog 83 [.int .i64 n] [] (.bool (inR n 0 4)) [] := by
 refine FnSpec.of 5 Try.func83 rfl Try.ntmps83 (by simp) (AW.weakK ?_)
 refine AW.q 1 ?_
 refine AW.r ?_
 refine At.a 1 ?_
 refine At.c (impl_within_spec  n 0 4 ) Try.call85 true [] [] [] trivial ?_
 refine At.z 1 ?_
 exact AW.ret (rf (KF.n []))
def K_impl_CmdOk (rs : List ResultVar) (c : Cmd) (w0_ : Bool) : Exit → Sg → Prop := KF Try.prog 0 rs (.bool w0_) []
theorem impl_CmdOk_spec  (c : Cmd) : FnSpec Try.prog 88 [.agg [.int .i64 c.kind, .int .i64 c.release, .int .i64 c.node, .int .i64 c.size, .str c.digest]] [] (.bool (cmdOk c)) [] := by
 refine FnSpec.of 52 Try.func88 rfl Try.ntmps88 (by simp) (AW.weakK ?_)
 refine AW.q 2 ?_
 refine AW.q 3 ?_
 refine AW.q 4 ?_
 refine AW.r ?_
 refine At.a 2 ?_
 refine At.c (impl_isRelease_spec  c.release ) Try.call86 true [] [] [] trivial ?_
 refine At.z 1 ?_
 refine AW.seq ?_
 refine AW.q 2 ?_
 refine AW.block ?_
 refine AW.q 2 ?_
 refine AW.cE c.kind (1 : Int) (fun h1 => ?_) (fun h1 => ?_)
 · refine AW.gq 4 ?_
   refine AW.r ?_
   refine At.a 2 ?_
   by_cases h2 : c.release = 0
   · refine At.sB 47 _ _ (sayET h2) ?_
     refine At.a 2 ?_
     refine At.eqA (t := 31) (u := 31) (d := 50) (op := .eql) (x := .tmp 48) (y := .tmp 49) (X := [.int .i64 0, .int .i64 0, .int .i64 c.node, .int .i64 c.size, .str c.digest]) (Y := [.int .i64 0, .int .i64 0, .int .i64 0, .int .i64 0, .str (⟨#[]⟩ : ByteArray)]) (cmdEq (⟨0, 0, c.node, c.size, c.digest⟩ : Cmd) (⟨0, 0, 0, 0, (⟨#[]⟩ : ByteArray)⟩ : Cmd)) (by kernel_rfl) (by kernel_rfl) (by kernel_rfl) (by kernel_rfl) (by kernel_rfl) (.bool (cmdEq (⟨0, 0, c.node, c.size, c.digest⟩ : Cmd) (⟨0, 0, 0, 0, (⟨#[]⟩ : ByteArray)⟩ : Cmd))) (.inl ⟨rfl, rfl⟩) ?_
     refine At.z 2 ?_
     exact AW.ret (rf (k1 (K_impl_CmdOk _ c) (show (cmdEq (⟨0, 0, c.node, c.size, c.digest⟩ : Cmd) (⟨0, 0, 0, 0, (⟨#[]⟩ : ByteArray)⟩ : Cmd)) = (cmdOk c) from by (try simp only [inR_iff, inR_not] at *); rw [Bool.eq_iff_iff]; simp only [cmdOk, cmdEq, noBytes]; (repeat' split) <;> (try simp [inR_iff]) <;> grind) (KF.n [])))
   refine At.sB 47 _ _ (sayEF h2) ?_
   refine At.z 5 ?_
   exact AW.ret (rf (k1 (K_impl_CmdOk _ c) (show (false) = (cmdOk c) from by (try simp only [inR_iff, inR_not] at *); rw [Bool.eq_iff_iff]; simp only [cmdOk, cmdEq, noBytes]; (repeat' split) <;> (try simp [inR_iff]) <;> grind) (KF.n [])))
 refine AW.q 2 ?_
 refine AW.cE c.kind (2 : Int) (fun h3 => ?_) (fun h3 => ?_)
 · refine AW.r ?_
   refine At.a 2 ?_
   by_cases h4 : (inR c.release 1 1000) = true
   · refine At.sB 21 (inR c.release 1 1000) true (sayB h4) ?_
     refine At.a 2 ?_
     refine At.c (impl_isSize_spec  c.size ) Try.call87 true [] [] [] trivial ?_
     refine At.a 2 ?_
     by_cases h5 : (inR c.size 0 1000) = true
     · refine At.sB 26 (inR c.size 0 1000) true (sayB h5) ?_
       refine At.z 6 ?_
       refine AW.gq 4 ?_
       refine AW.r ?_
       refine At.a 2 ?_
       by_cases h6 : (c.digest.size : Int) = 32
       · refine At.sB 47 _ _ (sayET h6) ?_
         refine At.a 2 ?_
         refine At.eqA (t := 31) (u := 31) (d := 50) (op := .eql) (x := .tmp 48) (y := .tmp 49) (X := [.int .i64 0, .int .i64 0, .int .i64 c.node, .int .i64 0, .str (⟨#[]⟩ : ByteArray)]) (Y := [.int .i64 0, .int .i64 0, .int .i64 0, .int .i64 0, .str (⟨#[]⟩ : ByteArray)]) (cmdEq (⟨0, 0, c.node, 0, (⟨#[]⟩ : ByteArray)⟩ : Cmd) (⟨0, 0, 0, 0, (⟨#[]⟩ : ByteArray)⟩ : Cmd)) (by kernel_rfl) (by kernel_rfl) (by kernel_rfl) (by kernel_rfl) (by kernel_rfl) (.bool (cmdEq (⟨0, 0, c.node, 0, (⟨#[]⟩ : ByteArray)⟩ : Cmd) (⟨0, 0, 0, 0, (⟨#[]⟩ : ByteArray)⟩ : Cmd))) (.inl ⟨rfl, rfl⟩) ?_
         refine At.z 2 ?_
         exact AW.ret (rf (k1 (K_impl_CmdOk _ c) (show (cmdEq (⟨0, 0, c.node, 0, (⟨#[]⟩ : ByteArray)⟩ : Cmd) (⟨0, 0, 0, 0, (⟨#[]⟩ : ByteArray)⟩ : Cmd)) = (cmdOk c) from by (try simp only [inR_iff, inR_not] at *); rw [Bool.eq_iff_iff]; simp only [cmdOk, cmdEq, noBytes]; (repeat' split) <;> (try simp [inR_iff]) <;> grind) (KF.n [])))
       refine At.sB 47 _ _ (sayEF h6) ?_
       refine At.z 5 ?_
       exact AW.ret (rf (k1 (K_impl_CmdOk _ c) (show (false) = (cmdOk c) from by (try simp only [inR_iff, inR_not] at *); rw [Bool.eq_iff_iff]; simp only [cmdOk, cmdEq, noBytes]; (repeat' split) <;> (try simp [inR_iff]) <;> grind) (KF.n [])))
     refine At.sB 26 (inR c.size 0 1000) false (sayB (Bool.eq_false_iff.2 h5)) ?_
     replace h5 := Bool.eq_false_iff.2 h5
     refine At.z 6 ?_
     refine AW.gq 4 ?_
     refine AW.q 7 ?_
     exact AW.ret (rf (k1 (K_impl_CmdOk _ c) (show (false) = (cmdOk c) from by (try simp only [inR_iff, inR_not] at *); rw [Bool.eq_iff_iff]; simp only [cmdOk, cmdEq, noBytes]; (repeat' split) <;> (try simp [inR_iff]) <;> grind) (KF.n [])))
   refine At.sB 21 (inR c.release 1 1000) false (sayB (Bool.eq_false_iff.2 h4)) ?_
   replace h4 := Bool.eq_false_iff.2 h4
   refine At.z 11 ?_
   refine AW.gq 4 ?_
   refine AW.q 7 ?_
   exact AW.ret (rf (k1 (K_impl_CmdOk _ c) (show (false) = (cmdOk c) from by (try simp only [inR_iff, inR_not] at *); rw [Bool.eq_iff_iff]; simp only [cmdOk, cmdEq, noBytes]; (repeat' split) <;> (try simp [inR_iff]) <;> grind) (KF.n [])))
 refine AW.q 2 ?_
 refine AW.cE c.kind (3 : Int) (fun h7 => ?_) (fun h7 => ?_)
 · refine AW.r ?_
   refine At.a 2 ?_
   by_cases h8 : (inR c.release 1 1000) = true
   · refine At.sB 37 (inR c.release 1 1000) true (sayB h8) ?_
     refine At.a 2 ?_
     refine At.c (impl_isNode_spec  c.node ) Try.call83 true [] [] [] trivial ?_
     refine At.z 2 ?_
     refine AW.gq 2 ?_
     refine AW.r ?_
     refine At.a 2 ?_
     by_cases h9 : (inR c.node 0 4) = true
     · refine At.sB 47 (inR c.node 0 4) true (sayB h9) ?_
       refine At.a 2 ?_
       refine At.eqA (t := 31) (u := 31) (d := 50) (op := .eql) (x := .tmp 48) (y := .tmp 49) (X := [.int .i64 0, .int .i64 0, .int .i64 0, .int .i64 c.size, .str c.digest]) (Y := [.int .i64 0, .int .i64 0, .int .i64 0, .int .i64 0, .str (⟨#[]⟩ : ByteArray)]) (cmdEq (⟨0, 0, 0, c.size, c.digest⟩ : Cmd) (⟨0, 0, 0, 0, (⟨#[]⟩ : ByteArray)⟩ : Cmd)) (by kernel_rfl) (by kernel_rfl) (by kernel_rfl) (by kernel_rfl) (by kernel_rfl) (.bool (cmdEq (⟨0, 0, 0, c.size, c.digest⟩ : Cmd) (⟨0, 0, 0, 0, (⟨#[]⟩ : ByteArray)⟩ : Cmd))) (.inl ⟨rfl, rfl⟩) ?_
       refine At.z 2 ?_
       exact AW.ret (rf (k1 (K_impl_CmdOk _ c) (show (cmdEq (⟨0, 0, 0, c.size, c.digest⟩ : Cmd) (⟨0, 0, 0, 0, (⟨#[]⟩ : ByteArray)⟩ : Cmd)) = (cmdOk c) from by (try simp only [inR_iff, inR_not] at *); rw [Bool.eq_iff_iff]; simp only [cmdOk, cmdEq, noBytes]; (repeat' split) <;> (try simp [inR_iff]) <;> grind) (KF.n [])))
     refine At.sB 47 (inR c.node 0 4) false (sayB (Bool.eq_false_iff.2 h9)) ?_
     replace h9 := Bool.eq_false_iff.2 h9
     refine At.z 5 ?_
     exact AW.ret (rf (k1 (K_impl_CmdOk _ c) (show (false) = (cmdOk c) from by (try simp only [inR_iff, inR_not] at *); rw [Bool.eq_iff_iff]; simp only [cmdOk, cmdEq, noBytes]; (repeat' split) <;> (try simp [inR_iff]) <;> grind) (KF.n [])))
   refine At.sB 37 (inR c.release 1 1000) false (sayB (Bool.eq_false_iff.2 h8)) ?_
   replace h8 := Bool.eq_false_iff.2 h8
   refine At.z 5 ?_
   refine AW.gq 2 ?_
   refine AW.q 7 ?_
   exact AW.ret (rf (k1 (K_impl_CmdOk _ c) (show (false) = (cmdOk c) from by (try simp only [inR_iff, inR_not] at *); rw [Bool.eq_iff_iff]; simp only [cmdOk, cmdEq, noBytes]; (repeat' split) <;> (try simp [inR_iff]) <;> grind) (KF.n [])))
 refine AW.seq ?_
 refine AW.q 2 ?_
 refine AW.cE c.kind (4 : Int) (fun h10 => ?_) (fun h10 => ?_)
 · refine AW.skip ?_
   refine AW.cE c.kind (4 : Int) (fun h11 => ?_) (fun h11 => ?_)
   · refine AW.skip ?_
     refine AW.r ?_
     refine At.a 2 ?_
     by_cases h12 : (inR c.release 1 1000) = true
     · refine At.sB 47 (inR c.release 1 1000) true (sayB h12) ?_
       refine At.a 2 ?_
       refine At.eqA (t := 31) (u := 31) (d := 50) (op := .eql) (x := .tmp 48) (y := .tmp 49) (X := [.int .i64 0, .int .i64 0, .int .i64 c.node, .int .i64 c.size, .str c.digest]) (Y := [.int .i64 0, .int .i64 0, .int .i64 0, .int .i64 0, .str (⟨#[]⟩ : ByteArray)]) (cmdEq (⟨0, 0, c.node, c.size, c.digest⟩ : Cmd) (⟨0, 0, 0, 0, (⟨#[]⟩ : ByteArray)⟩ : Cmd)) (by kernel_rfl) (by kernel_rfl) (by kernel_rfl) (by kernel_rfl) (by kernel_rfl) (.bool (cmdEq (⟨0, 0, c.node, c.size, c.digest⟩ : Cmd) (⟨0, 0, 0, 0, (⟨#[]⟩ : ByteArray)⟩ : Cmd))) (.inl ⟨rfl, rfl⟩) ?_
       refine At.z 2 ?_
       exact AW.ret (rf (k1 (K_impl_CmdOk _ c) (show (cmdEq (⟨0, 0, c.node, c.size, c.digest⟩ : Cmd) (⟨0, 0, 0, 0, (⟨#[]⟩ : ByteArray)⟩ : Cmd)) = (cmdOk c) from by (try simp only [inR_iff, inR_not] at *); rw [Bool.eq_iff_iff]; simp only [cmdOk, cmdEq, noBytes]; (repeat' split) <;> (try simp [inR_iff]) <;> grind) (KF.n [])))
     refine At.sB 47 (inR c.release 1 1000) false (sayB (Bool.eq_false_iff.2 h12)) ?_
     replace h12 := Bool.eq_false_iff.2 h12
     refine At.z 5 ?_
     exact AW.ret (rf (k1 (K_impl_CmdOk _ c) (show (false) = (cmdOk c) from by (try simp only [inR_iff, inR_not] at *); rw [Bool.eq_iff_iff]; simp only [cmdOk, cmdEq, noBytes]; (repeat' split) <;> (try simp [inR_iff]) <;> grind) (KF.n [])))
   refine AW.q 1 ?_
   exact AW.ret (rf (k1 (K_impl_CmdOk _ c) (show (false) = (cmdOk c) from by (try simp only [inR_iff, inR_not] at *); rw [Bool.eq_iff_iff]; simp only [cmdOk, cmdEq, noBytes]; (repeat' split) <;> (try simp [inR_iff]) <;> grind) (KF.n [])))
 refine AW.gq 2 ?_
 refine AW.cE c.kind (5 : Int) (fun h13 => ?_) (fun h13 => ?_)
 · refine AW.skip ?_
   refine AW.r ?_
   refine At.a 2 ?_
   by_cases h14 : (inR c.release 1 1000) = true
   · refine At.sB 47 (inR c.release 1 1000) true (sayB h14) ?_
     refine At.a 2 ?_
     refine At.eqA (t := 31) (u := 31) (d := 50) (op := .eql) (x := .tmp 48) (y := .tmp 49) (X := [.int .i64 0, .int .i64 0, .int .i64 c.node, .int .i64 c.size, .str c.digest]) (Y := [.int .i64 0, .int .i64 0, .int .i64 0, .int .i64 0, .str (⟨#[]⟩ : ByteArray)]) (cmdEq (⟨0, 0, c.node, c.size, c.digest⟩ : Cmd) (⟨0, 0, 0, 0, (⟨#[]⟩ : ByteArray)⟩ : Cmd)) (by kernel_rfl) (by kernel_rfl) (by kernel_rfl) (by kernel_rfl) (by kernel_rfl) (.bool (cmdEq (⟨0, 0, c.node, c.size, c.digest⟩ : Cmd) (⟨0, 0, 0, 0, (⟨#[]⟩ : ByteArray)⟩ : Cmd))) (.inl ⟨rfl, rfl⟩) ?_
     refine At.z 2 ?_
     exact AW.ret (rf (k1 (K_impl_CmdOk _ c) (show (cmdEq (⟨0, 0, c.node, c.size, c.digest⟩ : Cmd) (⟨0, 0, 0, 0, (⟨#[]⟩ : ByteArray)⟩ : Cmd)) = (cmdOk c) from by (try simp only [inR_iff, inR_not] at *); rw [Bool.eq_iff_iff]; simp only [cmdOk, cmdEq, noBytes]; (repeat' split) <;> (try simp [inR_iff]) <;> grind) (KF.n [])))
   refine At.sB 47 (inR c.release 1 1000) false (sayB (Bool.eq_false_iff.2 h14)) ?_
   replace h14 := Bool.eq_false_iff.2 h14
   refine At.z 5 ?_
   exact AW.ret (rf (k1 (K_impl_CmdOk _ c) (show (false) = (cmdOk c) from by (try simp only [inR_iff, inR_not] at *); rw [Bool.eq_iff_iff]; simp only [cmdOk, cmdEq, noBytes]; (repeat' split) <;> (try simp [inR_iff]) <;> grind) (KF.n [])))
 refine AW.q 1 ?_
 exact AW.ret (rf (k1 (K_impl_CmdOk _ c) (show (false) = (cmdOk c) from by (try simp only [inR_iff, inR_not] at *); rw [Bool.eq_iff_iff]; simp only [cmdOk, cmdEq, noBytes]; (repeat' split) <;> (try simp [inR_iff]) <;> grind) (KF.n [])))
def K_impl_reader_cmd (rs : List ResultVar) (r : Rd) (w0_ : Cmd) (w1_ : Rd) : Exit → Sg → Prop := KF Try.prog 1 rs (.agg [.int .i64 w0_.kind, .int .i64 w0_.release, .int .i64 w0_.node, .int .i64 w0_.size, .str w0_.digest]) [.box 70 [.sl false 1 (w1_.b.map encU8), .int .i64 w1_.at_, .bool w1_.bad]]
theorem impl_reader_cmd_spec  (r : Rd) (hr : RdOk r) : FnSpec Try.prog 78 [.ptr 0 0 0] [.box 70 [.sl false 1 (r.b.map encU8), .int .i64 r.at_, .bool r.bad]] (.agg [.int .i64 (((rdCmd r).2).kind), .int .i64 (((rdCmd r).2).release), .int .i64 (((rdCmd r).2).node), .int .i64 (((rdCmd r).2).size), .str (((rdCmd r).2).digest)]) [.box 70 [.sl false 1 ((((rdCmd r).1).b).map encU8), .int .i64 (((rdCmd r).1).at_), .bool (((rdCmd r).1).bad)]] := by
 obtain ⟨r1, r2, r3⟩ := id hr
 have hgn := getN_num r.b (at_ := r.at_)
 refine FnSpec.of 43 Try.func78 rfl Try.ntmps78 (by simp) (AW.weakK ?_)
 refine AW.q 1 ?_
 refine AW.q 3 ?_
 refine AW.r ?_
 refine At.a 1 ?_
 refine At.c (impl_reader_num_spec  r (by assumption)) Try.call46 true [(0, 0)] [] [] trivial ?_
 refine At.z 2 ?_
 refine AW.seq ?_
 refine AW.q 3 ?_
 refine AW.cU ((rdNum r).2) (1 : Int) (fun h1 => ?_) (fun h1 => ?_)
 · refine AW.g ?_
   refine At.a 1 ?_
   refine At.c (impl_reader_num_spec  ((rdNum r).1) (by exact rdNum_ok hr)) Try.call46 true [(0, 0)] [] [] trivial ?_
   refine At.z 2 ?_
   refine AW.seq ?_
   refine AW.q 2 ?_
   refine AW.block ?_
   refine AW.q 2 ?_
   refine AW.cE ((rdNum r).2) (3 : Int) (fun h2 => ?_) (fun h2 => ?_)
   · refine AW.g ?_
     refine At.a 1 ?_
     refine At.c (impl_reader_num_spec  ((rdNum ((rdNum r).1)).1) (by exact rdNum_ok (rdNum_ok hr))) Try.call46 true [(0, 0)] [] [] trivial ?_
     refine At.z 2 ?_
     refine AW.seq ?_
     refine AW.r ?_
     refine At.a 5 ?_
     by_cases h3 : (((rdNum ((rdNum ((rdNum r).1)).1)).1).bad) = true
     · refine At.sB 33 (((rdNum ((rdNum ((rdNum r).1)).1)).1).bad) true (sayB h3) ?_
       refine At.z 4 ?_
       refine AW.cond true (by kernel_rfl) (fun _ => ?_) (fun h => by cases h)
       refine AW.q 4 ?_
       refine AW.q 2 ?_
       exact AW.ret (rf (k2 (K_impl_reader_cmd _ r) (show ((⟨0, 0, 0, 0, (⟨#[]⟩ : ByteArray)⟩ : Cmd)) = ((rdCmd r).2) from by grind [rdCmd, rdCmd0, zCmd]) (show ((⟨((rdNum ((rdNum ((rdNum r).1)).1)).1).b, ((rdNum ((rdNum ((rdNum r).1)).1)).1).at_, true⟩ : Rd)) = ((rdCmd r).1) from by grind [rdCmd, rdCmd0, zCmd]) (KF.n [(0, 0)])))
     refine At.sB 33 (((rdNum ((rdNum ((rdNum r).1)).1)).1).bad) false (sayB (Bool.eq_false_iff.2 h3)) ?_
     replace h3 := Bool.eq_false_iff.2 h3
     refine At.a 1 ?_
     refine At.c (impl_CmdOk_spec  (⟨(rdNum r).2, (rdNum ((rdNum r).1)).2, (rdNum ((rdNum ((rdNum r).1)).1)).2, 0, (⟨#[]⟩ : ByteArray)⟩ : Cmd) ) Try.call88 true [] [] [] trivial ?_
     refine At.z 2 ?_
     refine AW.cNB (cmdOk (⟨(rdNum r).2, (rdNum ((rdNum r).1)).2, (rdNum ((rdNum ((rdNum r).1)).1)).2, 0, (⟨#[]⟩ : ByteArray)⟩ : Cmd)) (fun h4 => ?_) (fun h4 => ?_)
     · refine AW.q 4 ?_
       refine AW.q 2 ?_
       exact AW.ret (rf (k2 (K_impl_reader_cmd _ r) (show ((⟨0, 0, 0, 0, (⟨#[]⟩ : ByteArray)⟩ : Cmd)) = ((rdCmd r).2) from by grind [rdCmd, rdCmd0, zCmd]) (show ((⟨((rdNum ((rdNum ((rdNum r).1)).1)).1).b, ((rdNum ((rdNum ((rdNum r).1)).1)).1).at_, true⟩ : Rd)) = ((rdCmd r).1) from by grind [rdCmd, rdCmd0, zCmd]) (KF.n [(0, 0)])))
     refine AW.skip ?_
     refine AW.q 2 ?_
     exact AW.ret (rf (k2 (K_impl_reader_cmd _ r) (show ((⟨(rdNum r).2, (rdNum ((rdNum r).1)).2, (rdNum ((rdNum ((rdNum r).1)).1)).2, 0, (⟨#[]⟩ : ByteArray)⟩ : Cmd)) = ((rdCmd r).2) from by grind [rdCmd, rdCmd0, zCmd]) (show (((rdNum ((rdNum ((rdNum r).1)).1)).1)) = ((rdCmd r).1) from by grind [rdCmd, rdCmd0, zCmd]) (KF.n [(0, 0)])))
   refine AW.q 2 ?_
   refine AW.cE ((rdNum r).2) (2 : Int) (fun h5 => ?_) (fun h5 => ?_)
   · refine AW.r ?_
     refine At.a 1 ?_
     refine At.c (impl_reader_num_spec  ((rdNum ((rdNum r).1)).1) (by exact rdNum_ok (rdNum_ok hr))) Try.call46 true [(0, 0)] [] [] trivial ?_
     refine At.z 2 ?_
     refine AW.g ?_
     refine At.a 1 ?_
     refine At.c (impl_reader_bytes_spec  ((rdNum ((rdNum ((rdNum r).1)).1)).1) 32 (by exact rdNum_ok (rdNum_ok (rdNum_ok hr))) (by omega)) Try.call92 true [(0, 0)] [] [] trivial ?_
     refine At.z 2 ?_
     refine AW.seq ?_
     refine AW.r ?_
     refine At.a 5 ?_
     by_cases h6 : (((rdBytes ((rdNum ((rdNum ((rdNum r).1)).1)).1) 32).1).bad) = true
     · refine At.sB 33 (((rdBytes ((rdNum ((rdNum ((rdNum r).1)).1)).1) 32).1).bad) true (sayB h6) ?_
       refine At.z 4 ?_
       refine AW.cond true (by kernel_rfl) (fun _ => ?_) (fun h => by cases h)
       refine AW.q 4 ?_
       refine AW.q 2 ?_
       exact AW.ret (rf (k2 (K_impl_reader_cmd _ r) (show ((⟨0, 0, 0, 0, (⟨#[]⟩ : ByteArray)⟩ : Cmd)) = ((rdCmd r).2) from by grind [rdCmd, rdCmd0, zCmd]) (show ((⟨((rdBytes ((rdNum ((rdNum ((rdNum r).1)).1)).1) 32).1).b, ((rdBytes ((rdNum ((rdNum ((rdNum r).1)).1)).1) 32).1).at_, true⟩ : Rd)) = ((rdCmd r).1) from by grind [rdCmd, rdCmd0, zCmd]) (KF.n [(0, 0)])))
     refine At.sB 33 (((rdBytes ((rdNum ((rdNum ((rdNum r).1)).1)).1) 32).1).bad) false (sayB (Bool.eq_false_iff.2 h6)) ?_
     replace h6 := Bool.eq_false_iff.2 h6
     refine At.a 1 ?_
     refine At.c (impl_CmdOk_spec  (⟨(rdNum r).2, (rdNum ((rdNum r).1)).2, 0, (rdNum ((rdNum ((rdNum r).1)).1)).2, (rdBytes ((rdNum ((rdNum ((rdNum r).1)).1)).1) 32).2⟩ : Cmd) ) Try.call88 true [] [] [] trivial ?_
     refine At.z 2 ?_
     refine AW.cNB (cmdOk (⟨(rdNum r).2, (rdNum ((rdNum r).1)).2, 0, (rdNum ((rdNum ((rdNum r).1)).1)).2, (rdBytes ((rdNum ((rdNum ((rdNum r).1)).1)).1) 32).2⟩ : Cmd)) (fun h7 => ?_) (fun h7 => ?_)
     · refine AW.q 4 ?_
       refine AW.q 2 ?_
       exact AW.ret (rf (k2 (K_impl_reader_cmd _ r) (show ((⟨0, 0, 0, 0, (⟨#[]⟩ : ByteArray)⟩ : Cmd)) = ((rdCmd r).2) from by grind [rdCmd, rdCmd0, zCmd]) (show ((⟨((rdBytes ((rdNum ((rdNum ((rdNum r).1)).1)).1) 32).1).b, ((rdBytes ((rdNum ((rdNum ((rdNum r).1)).1)).1) 32).1).at_, true⟩ : Rd)) = ((rdCmd r).1) from by grind [rdCmd, rdCmd0, zCmd]) (KF.n [(0, 0)])))
     refine AW.skip ?_
     refine AW.q 2 ?_
     exact AW.ret (rf (k2 (K_impl_reader_cmd _ r) (show ((⟨(rdNum r).2, (rdNum ((rdNum r).1)).2, 0, (rdNum ((rdNum ((rdNum r).1)).1)).2, (rdBytes ((rdNum ((rdNum ((rdNum r).1)).1)).1) 32).2⟩ : Cmd)) = ((rdCmd r).2) from by grind [rdCmd, rdCmd0, zCmd]) (show (((rdBytes ((rdNum ((rdNum ((rdNum r).1)).1)).1) 32).1)) = ((rdCmd r).1) from by grind [rdCmd, rdCmd0, zCmd]) (KF.n [(0, 0)])))
   refine AW.skip ?_
   refine AW.seq ?_
   refine AW.r ?_
   refine At.a 5 ?_
   by_cases h8 : (((rdNum ((rdNum r).1)).1).bad) = true
   · refine At.sB 33 (((rdNum ((rdNum r).1)).1).bad) true (sayB h8) ?_
     refine At.z 4 ?_
     refine AW.cond true (by kernel_rfl) (fun _ => ?_) (fun h => by cases h)
     refine AW.q 4 ?_
     refine AW.q 2 ?_
     exact AW.ret (rf (k2 (K_impl_reader_cmd _ r) (show ((⟨0, 0, 0, 0, (⟨#[]⟩ : ByteArray)⟩ : Cmd)) = ((rdCmd r).2) from by grind [rdCmd, rdCmd0, zCmd]) (show ((⟨((rdNum ((rdNum r).1)).1).b, ((rdNum ((rdNum r).1)).1).at_, true⟩ : Rd)) = ((rdCmd r).1) from by grind [rdCmd, rdCmd0, zCmd]) (KF.n [(0, 0)])))
   refine At.sB 33 (((rdNum ((rdNum r).1)).1).bad) false (sayB (Bool.eq_false_iff.2 h8)) ?_
   replace h8 := Bool.eq_false_iff.2 h8
   refine At.a 1 ?_
   refine At.c (impl_CmdOk_spec  (⟨(rdNum r).2, (rdNum ((rdNum r).1)).2, 0, 0, (⟨#[]⟩ : ByteArray)⟩ : Cmd) ) Try.call88 true [] [] [] trivial ?_
   refine At.z 2 ?_
   refine AW.cNB (cmdOk (⟨(rdNum r).2, (rdNum ((rdNum r).1)).2, 0, 0, (⟨#[]⟩ : ByteArray)⟩ : Cmd)) (fun h9 => ?_) (fun h9 => ?_)
   · refine AW.q 4 ?_
     refine AW.q 2 ?_
     exact AW.ret (rf (k2 (K_impl_reader_cmd _ r) (show ((⟨0, 0, 0, 0, (⟨#[]⟩ : ByteArray)⟩ : Cmd)) = ((rdCmd r).2) from by grind [rdCmd, rdCmd0, zCmd]) (show ((⟨((rdNum ((rdNum r).1)).1).b, ((rdNum ((rdNum r).1)).1).at_, true⟩ : Rd)) = ((rdCmd r).1) from by grind [rdCmd, rdCmd0, zCmd]) (KF.n [(0, 0)])))
   refine AW.skip ?_
   refine AW.q 2 ?_
   exact AW.ret (rf (k2 (K_impl_reader_cmd _ r) (show ((⟨(rdNum r).2, (rdNum ((rdNum r).1)).2, 0, 0, (⟨#[]⟩ : ByteArray)⟩ : Cmd)) = ((rdCmd r).2) from by grind [rdCmd, rdCmd0, zCmd]) (show (((rdNum ((rdNum r).1)).1)) = ((rdCmd r).1) from by grind [rdCmd, rdCmd0, zCmd]) (KF.n [(0, 0)])))
 refine AW.skip ?_
 refine AW.seq ?_
 refine AW.q 2 ?_
 refine AW.block ?_
 refine AW.q 2 ?_
 refine AW.cE ((rdNum r).2) (3 : Int) (fun h10 => ?_) (fun h10 => ?_)
 · refine AW.g ?_
   refine At.a 1 ?_
   refine At.c (impl_reader_num_spec  ((rdNum r).1) (by exact rdNum_ok hr)) Try.call46 true [(0, 0)] [] [] trivial ?_
   refine At.z 2 ?_
   refine AW.seq ?_
   refine AW.r ?_
   refine At.a 5 ?_
   by_cases h11 : (((rdNum ((rdNum r).1)).1).bad) = true
   · refine At.sB 33 (((rdNum ((rdNum r).1)).1).bad) true (sayB h11) ?_
     refine At.z 4 ?_
     refine AW.cond true (by kernel_rfl) (fun _ => ?_) (fun h => by cases h)
     refine AW.q 4 ?_
     refine AW.q 2 ?_
     exact AW.ret (rf (k2 (K_impl_reader_cmd _ r) (show ((⟨0, 0, 0, 0, (⟨#[]⟩ : ByteArray)⟩ : Cmd)) = ((rdCmd r).2) from by grind [rdCmd, rdCmd0, zCmd]) (show ((⟨((rdNum ((rdNum r).1)).1).b, ((rdNum ((rdNum r).1)).1).at_, true⟩ : Rd)) = ((rdCmd r).1) from by grind [rdCmd, rdCmd0, zCmd]) (KF.n [(0, 0)])))
   refine At.sB 33 (((rdNum ((rdNum r).1)).1).bad) false (sayB (Bool.eq_false_iff.2 h11)) ?_
   replace h11 := Bool.eq_false_iff.2 h11
   refine At.a 1 ?_
   refine At.c (impl_CmdOk_spec  (⟨(rdNum r).2, 0, (rdNum ((rdNum r).1)).2, 0, (⟨#[]⟩ : ByteArray)⟩ : Cmd) ) Try.call88 true [] [] [] trivial ?_
   refine At.z 2 ?_
   refine AW.cNB (cmdOk (⟨(rdNum r).2, 0, (rdNum ((rdNum r).1)).2, 0, (⟨#[]⟩ : ByteArray)⟩ : Cmd)) (fun h12 => ?_) (fun h12 => ?_)
   · refine AW.q 4 ?_
     refine AW.q 2 ?_
     exact AW.ret (rf (k2 (K_impl_reader_cmd _ r) (show ((⟨0, 0, 0, 0, (⟨#[]⟩ : ByteArray)⟩ : Cmd)) = ((rdCmd r).2) from by grind [rdCmd, rdCmd0, zCmd]) (show ((⟨((rdNum ((rdNum r).1)).1).b, ((rdNum ((rdNum r).1)).1).at_, true⟩ : Rd)) = ((rdCmd r).1) from by grind [rdCmd, rdCmd0, zCmd]) (KF.n [(0, 0)])))
   refine AW.skip ?_
   refine AW.q 2 ?_
   exact AW.ret (rf (k2 (K_impl_reader_cmd _ r) (show ((⟨(rdNum r).2, 0, (rdNum ((rdNum r).1)).2, 0, (⟨#[]⟩ : ByteArray)⟩ : Cmd)) = ((rdCmd r).2) from by grind [rdCmd, rdCmd0, zCmd]) (show (((rdNum ((rdNum r).1)).1)) = ((rdCmd r).1) from by grind [rdCmd, rdCmd0, zCmd]) (KF.n [(0, 0)])))
 refine AW.q 2 ?_
 refine AW.cE ((rdNum r).2) (2 : Int) (fun h13 => ?_) (fun h13 => ?_)
 · refine AW.r ?_
   refine At.a 1 ?_
   refine At.c (impl_reader_num_spec  ((rdNum r).1) (by exact rdNum_ok hr)) Try.call46 true [(0, 0)] [] [] trivial ?_
   refine At.z 2 ?_
   refine AW.g ?_
   refine At.a 1 ?_
   refine At.c (impl_reader_bytes_spec  ((rdNum ((rdNum r).1)).1) 32 (by exact rdNum_ok (rdNum_ok hr)) (by omega)) Try.call92 true [(0, 0)] [] [] trivial ?_
   refine At.z 2 ?_
   refine AW.seq ?_
   refine AW.r ?_
   refine At.a 5 ?_
   by_cases h14 : (((rdBytes ((rdNum ((rdNum r).1)).1) 32).1).bad) = true
   · refine At.sB 33 (((rdBytes ((rdNum ((rdNum r).1)).1) 32).1).bad) true (sayB h14) ?_
     refine At.z 4 ?_
     refine AW.cond true (by kernel_rfl) (fun _ => ?_) (fun h => by cases h)
     refine AW.q 4 ?_
     refine AW.q 2 ?_
     exact AW.ret (rf (k2 (K_impl_reader_cmd _ r) (show ((⟨0, 0, 0, 0, (⟨#[]⟩ : ByteArray)⟩ : Cmd)) = ((rdCmd r).2) from by grind [rdCmd, rdCmd0, zCmd]) (show ((⟨((rdBytes ((rdNum ((rdNum r).1)).1) 32).1).b, ((rdBytes ((rdNum ((rdNum r).1)).1) 32).1).at_, true⟩ : Rd)) = ((rdCmd r).1) from by grind [rdCmd, rdCmd0, zCmd]) (KF.n [(0, 0)])))
   refine At.sB 33 (((rdBytes ((rdNum ((rdNum r).1)).1) 32).1).bad) false (sayB (Bool.eq_false_iff.2 h14)) ?_
   replace h14 := Bool.eq_false_iff.2 h14
   refine At.a 1 ?_
   refine At.c (impl_CmdOk_spec  (⟨(rdNum r).2, 0, 0, (rdNum ((rdNum r).1)).2, (rdBytes ((rdNum ((rdNum r).1)).1) 32).2⟩ : Cmd) ) Try.call88 true [] [] [] trivial ?_
   refine At.z 2 ?_
   refine AW.cNB (cmdOk (⟨(rdNum r).2, 0, 0, (rdNum ((rdNum r).1)).2, (rdBytes ((rdNum ((rdNum r).1)).1) 32).2⟩ : Cmd)) (fun h15 => ?_) (fun h15 => ?_)
   · refine AW.q 4 ?_
     refine AW.q 2 ?_
     exact AW.ret (rf (k2 (K_impl_reader_cmd _ r) (show ((⟨0, 0, 0, 0, (⟨#[]⟩ : ByteArray)⟩ : Cmd)) = ((rdCmd r).2) from by grind [rdCmd, rdCmd0, zCmd]) (show ((⟨((rdBytes ((rdNum ((rdNum r).1)).1) 32).1).b, ((rdBytes ((rdNum ((rdNum r).1)).1) 32).1).at_, true⟩ : Rd)) = ((rdCmd r).1) from by grind [rdCmd, rdCmd0, zCmd]) (KF.n [(0, 0)])))
   refine AW.skip ?_
   refine AW.q 2 ?_
   exact AW.ret (rf (k2 (K_impl_reader_cmd _ r) (show ((⟨(rdNum r).2, 0, 0, (rdNum ((rdNum r).1)).2, (rdBytes ((rdNum ((rdNum r).1)).1) 32).2⟩ : Cmd)) = ((rdCmd r).2) from by grind [rdCmd, rdCmd0, zCmd]) (show (((rdBytes ((rdNum ((rdNum r).1)).1) 32).1)) = ((rdCmd r).1) from by grind [rdCmd, rdCmd0, zCmd]) (KF.n [(0, 0)])))
 refine AW.skip ?_
 refine AW.seq ?_
 refine AW.r ?_
 refine At.a 5 ?_
 by_cases h16 : (((rdNum r).1).bad) = true
 · refine At.sB 33 (((rdNum r).1).bad) true (sayB h16) ?_
   refine At.z 4 ?_
   refine AW.cond true (by kernel_rfl) (fun _ => ?_) (fun h => by cases h)
   refine AW.q 4 ?_
   refine AW.q 2 ?_
   exact AW.ret (rf (k2 (K_impl_reader_cmd _ r) (show ((⟨0, 0, 0, 0, (⟨#[]⟩ : ByteArray)⟩ : Cmd)) = ((rdCmd r).2) from by grind [rdCmd, rdCmd0, zCmd]) (show ((⟨((rdNum r).1).b, ((rdNum r).1).at_, true⟩ : Rd)) = ((rdCmd r).1) from by grind [rdCmd, rdCmd0, zCmd]) (KF.n [(0, 0)])))
 refine At.sB 33 (((rdNum r).1).bad) false (sayB (Bool.eq_false_iff.2 h16)) ?_
 replace h16 := Bool.eq_false_iff.2 h16
 refine At.a 1 ?_
 refine At.c (impl_CmdOk_spec  (⟨(rdNum r).2, 0, 0, 0, (⟨#[]⟩ : ByteArray)⟩ : Cmd) ) Try.call88 true [] [] [] trivial ?_
 refine At.z 2 ?_
 refine AW.cNB (cmdOk (⟨(rdNum r).2, 0, 0, 0, (⟨#[]⟩ : ByteArray)⟩ : Cmd)) (fun h17 => ?_) (fun h17 => ?_)
 · refine AW.q 4 ?_
   refine AW.q 2 ?_
   exact AW.ret (rf (k2 (K_impl_reader_cmd _ r) (show ((⟨0, 0, 0, 0, (⟨#[]⟩ : ByteArray)⟩ : Cmd)) = ((rdCmd r).2) from by grind [rdCmd, rdCmd0, zCmd]) (show ((⟨((rdNum r).1).b, ((rdNum r).1).at_, true⟩ : Rd)) = ((rdCmd r).1) from by grind [rdCmd, rdCmd0, zCmd]) (KF.n [(0, 0)])))
 refine AW.skip ?_
 refine AW.q 2 ?_
 exact AW.ret (rf (k2 (K_impl_reader_cmd _ r) (show ((⟨(rdNum r).2, 0, 0, 0, (⟨#[]⟩ : ByteArray)⟩ : Cmd)) = ((rdCmd r).2) from by grind [rdCmd, rdCmd0, zCmd]) (show (((rdNum r).1)) = ((rdCmd r).1) from by grind [rdCmd, rdCmd0, zCmd]) (KF.n [(0, 0)])))
def K_impl_reader_entries (rs : List ResultVar) (r : Rd) (w0_ : List Ent) (w1_ : Rd) : Exit → Sg → Prop := KF Try.prog 1 rs (.ref 1) [.box 70 [.sl false 1 (w1_.b.map encU8), .int .i64 w1_.at_, .bool w1_.bad], .arr 56 6 (w0_.map encEnt)]
theorem impl_reader_entries_spec  (r : Rd) (hr : RdOk r) : FnSpec Try.prog 79 [.ptr 0 0 0] [.box 70 [.sl false 1 (r.b.map encU8), .int .i64 r.at_, .bool r.bad]] (.ref 1) [.box 70 [.sl false 1 ((((rdEnts r).1).b).map encU8), .int .i64 (((rdEnts r).1).at_), .bool (((rdEnts r).1).bad)], .arr 56 6 (((rdEnts r).2).map encEnt)] := by
 obtain ⟨r1, r2, r3⟩ := id hr
 have hgn := getN_num r.b (at_ := r.at_)
 have hn0 := rdNum_in r
 refine FnSpec.of 39 Try.func79 rfl Try.ntmps79 (by simp) (AW.weakK ?_)
 refine AW.q 1 ?_
 refine AW.r ?_
 refine At.lit0 (t := 32) (d := 7) (e := 56) (es := 6) (bytes := 56) 107 (by kernel_rfl) (by kernel_rfl) (by kernel_rfl) (by kernel_rfl) ?_
 refine At.z 1 ?_
 refine AW.r ?_
 refine At.a 1 ?_
 refine At.c (impl_reader_num_spec  r (by exact hr)) Try.call46 true [(0, 0)] [] [] trivial ?_
 refine At.z 1 ?_
 refine AW.seq ?_
 refine AW.q 2 ?_
 refine AW.cD (((rdNum r).2) > 6) (fun h1 => ?_) (fun h1 => ?_)
 · refine AW.gq 4 ?_
   refine AW.seq ?_
   refine AW.q 1 ?_
   refine AW.block ?_
   refine AW.loopW (fun (x : Nat × Rd × List Ent) => match x with | (k, q, l) => Go.Sy.mk [.ptr 0 0 0, .un, .un, .ref 107, .int .i64 ((rdNum r).2), .int .i64 (k : Int)] [(0, .box 70 [.sl false 1 (q.b.map encU8), .int .i64 q.at_, .bool q.bad]), (107, .arr 56 6 (l.map encEnt))]) (fun (x : Nat × Rd × List Ent) => match x with | (k, q, l) => RdOk q ∧ l.length = k ∧ k ≤ 7 ∧ ((rdNum r).2 > 6 → q.bad = true) ∧ rdEnts r = rdEntsGo ((rdNum r).2.toNat - k) q l) (fun (x : Nat × Rd × List Ent) => match x with | (k, q, l) => 7 - k) (0, (⟨((rdNum r).1).b, ((rdNum r).1).at_, true⟩ : Rd), []) ⟨by exact rdNum_ok hr, rfl, by omega, by intro h; first | rfl | (exfalso; omega), by exact rdEnts_far (by assumption)⟩ (Sub.o [(0, 0), (107, 107)] [true, false, false, true, true, true]) ?_
   rintro ⟨k, q, l⟩ ⟨hq, hl, hk, hbad, hR⟩
   refine AW.seq ?_
   refine AW.r ?_
   refine At.a 4 ?_
   by_cases h2 : (k : Int) < ((rdNum r).2)
   · refine At.sB 18 _ _ (sayT h2) ?_
     refine At.z 6 ?_
     refine AW.cNB (q.bad) (fun h3 => ?_) (fun h3 => ?_)
     · refine AW.skip ?_
       refine AW.seq ?_
       refine AW.block ?_
       refine AW.q 3 ?_
       refine AW.r ?_
       refine At.a 1 ?_
       refine At.c (impl_reader_num_spec  q (by exact hq)) Try.call46 true [(0, 0)] [] [] trivial ?_
       refine At.z 2 ?_
       refine AW.r ?_
       refine At.a 1 ?_
       refine At.c (impl_reader_cmd_spec  ((rdNum q).1) (by exact rdNum_ok hq)) Try.call78 true [(0, 0)] [] [] trivial ?_
       refine At.z 2 ?_
       refine AW.g ?_
       refine At.a 2 ?_
       refine At.ll 36 56 6 136 (56, 6) (([(⟨(rdNum q).2, ((rdCmd ((rdNum q).1)).2)⟩ : Ent)]).map encEnt) ?_
       refine At.apK 37 56 6 56 137 107 136 encEnt l ([(⟨(rdNum q).2, ((rdCmd ((rdNum q).1)).2)⟩ : Ent)]) (by simp only [List.length_map, List.length_append, List.length_take, List.length_drop, List.length_replicate, List.length_set, List.length_cons, List.length_nil]; omega) ?_
       refine At.z 1 ?_
       refine AW.g ?_
       refine At.a 2 ?_
       refine At.sI 26 ((k : Int) + 1) (by omega) ?_
       refine At.z 1 ?_
       exact ⟨(k + 1, ((rdCmd ((rdNum q).1)).1), (l ++ ([(⟨(rdNum q).2, ((rdCmd ((rdNum q).1)).2)⟩ : Ent)]))), ⟨rdCmd_ok (rdNum_ok hq), by simp [hl], by exfalso; have hb_ := hbad (by assumption); rw [show q.bad = false from by assumption] at hb_; exact Bool.false_ne_true hb_, by exfalso; have hb_ := hbad (by assumption); rw [show q.bad = false from by assumption] at hb_; exact Bool.false_ne_true hb_, by exfalso; have hb_ := hbad (by assumption); rw [show q.bad = false from by assumption] at hb_; exact Bool.false_ne_true hb_⟩, (by exfalso; have hb_ := hbad (by assumption); rw [show q.bad = false from by assumption] at hb_; exact Bool.false_ne_true hb_), Sub.o [(0, 0), (137, 107)] [true, false, false, true, true, true]⟩
     refine AW.exit ?_
     refine AW.q 2 ?_
     exact AW.ret (rf (k2 (K_impl_reader_entries _ r) (show (l) = ((rdEnts r).2) from by rw [hR]; exact (congrArg Prod.snd (rdEntsGo_bad (by assumption))).symm) (show (q) = ((rdEnts r).1) from by rw [hR]; exact (congrArg Prod.fst (rdEntsGo_bad (by assumption))).symm) (KF.n [(0, 0), (107, 1)])))
   refine At.sB 18 _ _ (sayF h2) ?_
   refine At.z 6 ?_
   refine AW.cond false (by kernel_rfl) (fun h => by cases h) (fun _ => ?_)
   refine AW.exit ?_
   refine AW.q 2 ?_
   exact AW.ret (rf (k2 (K_impl_reader_entries _ r) (show (l) = ((rdEnts r).2) from by rw [hR, show (rdNum r).2.toNat - k = 0 by omega]; rfl) (show (q) = ((rdEnts r).1) from by rw [hR, show (rdNum r).2.toNat - k = 0 by omega]; rfl) (KF.n [(0, 0), (107, 1)])))
 refine AW.skip ?_
 refine AW.seq ?_
 refine AW.q 1 ?_
 refine AW.block ?_
 refine AW.loopW (fun (x : Nat × Rd × List Ent) => match x with | (k, q, l) => Go.Sy.mk [.ptr 0 0 0, .un, .un, .ref 107, .int .i64 ((rdNum r).2), .int .i64 (k : Int)] [(0, .box 70 [.sl false 1 (q.b.map encU8), .int .i64 q.at_, .bool q.bad]), (107, .arr 56 6 (l.map encEnt))]) (fun (x : Nat × Rd × List Ent) => match x with | (k, q, l) => RdOk q ∧ l.length = k ∧ k ≤ 7 ∧ ((rdNum r).2 > 6 → q.bad = true) ∧ rdEnts r = rdEntsGo ((rdNum r).2.toNat - k) q l) (fun (x : Nat × Rd × List Ent) => match x with | (k, q, l) => 7 - k) (0, ((rdNum r).1), []) ⟨by exact rdNum_ok hr, rfl, by omega, by intro h; first | rfl | (exfalso; omega), by exact rdEnts_near (by assumption)⟩ (Sub.o [(0, 0), (107, 107)] [true, false, false, true, true, true]) ?_
 rintro ⟨k, q, l⟩ ⟨hq, hl, hk, hbad, hR⟩
 refine AW.seq ?_
 refine AW.r ?_
 refine At.a 4 ?_
 by_cases h4 : (k : Int) < ((rdNum r).2)
 · refine At.sB 18 _ _ (sayT h4) ?_
   refine At.z 6 ?_
   refine AW.cNB (q.bad) (fun h5 => ?_) (fun h5 => ?_)
   · refine AW.skip ?_
     refine AW.seq ?_
     refine AW.block ?_
     refine AW.q 3 ?_
     refine AW.r ?_
     refine At.a 1 ?_
     refine At.c (impl_reader_num_spec  q (by exact hq)) Try.call46 true [(0, 0)] [] [] trivial ?_
     refine At.z 2 ?_
     refine AW.r ?_
     refine At.a 1 ?_
     refine At.c (impl_reader_cmd_spec  ((rdNum q).1) (by exact rdNum_ok hq)) Try.call78 true [(0, 0)] [] [] trivial ?_
     refine At.z 2 ?_
     refine AW.g ?_
     refine At.a 2 ?_
     refine At.ll 36 56 6 136 (56, 6) (([(⟨(rdNum q).2, ((rdCmd ((rdNum q).1)).2)⟩ : Ent)]).map encEnt) ?_
     refine At.apK 37 56 6 56 137 107 136 encEnt l ([(⟨(rdNum q).2, ((rdCmd ((rdNum q).1)).2)⟩ : Ent)]) (by simp only [List.length_map, List.length_append, List.length_take, List.length_drop, List.length_replicate, List.length_set, List.length_cons, List.length_nil]; omega) ?_
     refine At.z 1 ?_
     refine AW.g ?_
     refine At.a 2 ?_
     refine At.sI 26 ((k : Int) + 1) (by omega) ?_
     refine At.z 1 ?_
     exact ⟨(k + 1, ((rdCmd ((rdNum q).1)).1), (l ++ ([(⟨(rdNum q).2, ((rdCmd ((rdNum q).1)).2)⟩ : Ent)]))), ⟨rdCmd_ok (rdNum_ok hq), by simp [hl], by omega, by intro h; exfalso; omega, by rw [hR, show (rdNum r).2.toNat - k = (rdNum r).2.toNat - (k + 1) + 1 by omega, rdEntsGo, if_neg (by simp [*])]⟩, (by simp only; omega), Sub.o [(0, 0), (137, 107)] [true, false, false, true, true, true]⟩
   refine AW.exit ?_
   refine AW.q 2 ?_
   exact AW.ret (rf (k2 (K_impl_reader_entries _ r) (show (l) = ((rdEnts r).2) from by rw [hR]; exact (congrArg Prod.snd (rdEntsGo_bad (by assumption))).symm) (show (q) = ((rdEnts r).1) from by rw [hR]; exact (congrArg Prod.fst (rdEntsGo_bad (by assumption))).symm) (KF.n [(0, 0), (107, 1)])))
 refine At.sB 18 _ _ (sayF h4) ?_
 refine At.z 6 ?_
 refine AW.cond false (by kernel_rfl) (fun h => by cases h) (fun _ => ?_)
 refine AW.exit ?_
 refine AW.q 2 ?_
 exact AW.ret (rf (k2 (K_impl_reader_entries _ r) (show (l) = ((rdEnts r).2) from by rw [hR, show (rdNum r).2.toNat - k = 0 by omega]; rfl) (show (q) = ((rdEnts r).1) from by rw [hR, show (rdNum r).2.toNat - k = 0 by omega]; rfl) (KF.n [(0, 0), (107, 1)])))
def K_impl_reader_field (rs : List ResultVar) (r : Rd) (m : Msg) (field : UInt8) (w0_ : Rd) (w1_ : Msg) : Exit → Sg → Prop := KF Try.prog 3 rs (.tup []) [.box 70 [.sl false 1 (w0_.b.map encU8), .int .i64 w0_.at_, .bool w0_.bad], .box 34 [.int .i64 w1_.kind, .int .i64 w1_.from_, .int .i64 w1_.term, .int .i64 w1_.at_, .int .i64 w1_.atTerm, .int .i64 w1_.commit, .bool w1_.yes, .int .i64 w1_.release, .int .i64 w1_.part, .str w1_.bytes, .int .i64 w1_.cmd.kind, .int .i64 w1_.cmd.release, .int .i64 w1_.cmd.node, .int .i64 w1_.cmd.size, .str w1_.cmd.digest, .ref 3], .dead, .arr 56 6 (w1_.entries.map encEnt)]
theorem impl_reader_field_spec  (r : Rd) (m : Msg) (field : UInt8) (hr : RdOk r) : FnSpec Try.prog 47 [.ptr 0 0 0, .ptr 1 0 0, .int .u8 (field.toNat : Int)] [.box 70 [.sl false 1 (r.b.map encU8), .int .i64 r.at_, .bool r.bad], .box 34 [.int .i64 m.kind, .int .i64 m.from_, .int .i64 m.term, .int .i64 m.at_, .int .i64 m.atTerm, .int .i64 m.commit, .bool m.yes, .int .i64 m.release, .int .i64 m.part, .str m.bytes, .int .i64 m.cmd.kind, .int .i64 m.cmd.release, .int .i64 m.cmd.node, .int .i64 m.cmd.size, .str m.cmd.digest, .ref 2], .arr 56 6 (m.entries.map encEnt)] (.tup []) [.box 70 [.sl false 1 ((((rdField r m field.toNat).1).b).map encU8), .int .i64 (((rdField r m field.toNat).1).at_), .bool (((rdField r m field.toNat).1).bad)], .box 34 [.int .i64 (((rdField r m field.toNat).2).kind), .int .i64 (((rdField r m field.toNat).2).from_), .int .i64 (((rdField r m field.toNat).2).term), .int .i64 (((rdField r m field.toNat).2).at_), .int .i64 (((rdField r m field.toNat).2).atTerm), .int .i64 (((rdField r m field.toNat).2).commit), .bool (((rdField r m field.toNat).2).yes), .int .i64 (((rdField r m field.toNat).2).release), .int .i64 (((rdField r m field.toNat).2).part), .str (((rdField r m field.toNat).2).bytes), .int .i64 (((rdField r m field.toNat).2).cmd.kind), .int .i64 (((rdField r m field.toNat).2).cmd.release), .int .i64 (((rdField r m field.toNat).2).cmd.node), .int .i64 (((rdField r m field.toNat).2).cmd.size), .str (((rdField r m field.toNat).2).cmd.digest), .ref 3], .dead, .arr 56 6 ((((rdField r m field.toNat).2).entries).map encEnt)] := by
 obtain ⟨r1, r2, r3⟩ := id hr
 have hgn := getN_num r.b (at_ := r.at_)
 have hn0 := rdNum_in r
 refine FnSpec.of 96 Try.func47 rfl Try.ntmps47 (by simp) (AW.weakK ?_)
 refine AW.q 1 ?_
 refine AW.block ?_
 refine AW.q 2 ?_
 refine AW.cE (field.toNat : Int) (102 : Int) (fun h1 => ?_) (fun h1 => ?_)
 · refine AW.g ?_
   refine At.a 2 ?_
   refine At.c (impl_reader_num_spec  r hr) Try.call46 true [(0, 0)] [] [] trivial ?_
   refine At.z 3 ?_
   refine ⟨_, (Sub.trans (Sub.refl _ _) (Sub.mv 2 8002 (by kernel_rfl) (by decide))), ?_⟩
   exact k2 (K_impl_reader_field _ r m field) (show (((rdNum r).1)) = ((rdField r m field.toNat).1) from by simp only [rdField, h1, if_true, if_false, Int.reduceEq, reduceIte, Bool.or_true, Bool.or_false, decide_true, decide_false, Bool.true_or, Bool.false_or] <;> rfl) (show ((⟨m.kind, (rdNum r).2, m.term, m.at_, m.atTerm, m.commit, m.yes, m.release, m.part, m.bytes, m.cmd, m.entries⟩ : Msg)) = ((rdField r m field.toNat).2) from by simp only [rdField, h1, if_true, if_false, Int.reduceEq, reduceIte, Bool.or_true, Bool.or_false, decide_true, decide_false, Bool.true_or, Bool.false_or] <;> rfl) (KF.n [(0, 0), (1, 1), (2, 2), (8002, 3)])
 refine AW.q 2 ?_
 refine AW.cE (field.toNat : Int) (116 : Int) (fun h2 => ?_) (fun h2 => ?_)
 · refine AW.g ?_
   refine At.a 2 ?_
   refine At.c (impl_reader_num_spec  r hr) Try.call46 true [(0, 0)] [] [] trivial ?_
   refine At.z 3 ?_
   refine ⟨_, (Sub.trans (Sub.refl _ _) (Sub.mv 2 8002 (by kernel_rfl) (by decide))), ?_⟩
   exact k2 (K_impl_reader_field _ r m field) (show (((rdNum r).1)) = ((rdField r m field.toNat).1) from by simp only [rdField, h1, h2, if_true, if_false, Int.reduceEq, reduceIte, Bool.or_true, Bool.or_false, decide_true, decide_false, Bool.true_or, Bool.false_or] <;> rfl) (show ((⟨m.kind, m.from_, (rdNum r).2, m.at_, m.atTerm, m.commit, m.yes, m.release, m.part, m.bytes, m.cmd, m.entries⟩ : Msg)) = ((rdField r m field.toNat).2) from by simp only [rdField, h1, h2, if_true, if_false, Int.reduceEq, reduceIte, Bool.or_true, Bool.or_false, decide_true, decide_false, Bool.true_or, Bool.false_or] <;> rfl) (KF.n [(0, 0), (1, 1), (2, 2), (8002, 3)])
 refine AW.q 2 ?_
 refine AW.cE (field.toNat : Int) (97 : Int) (fun h3 => ?_) (fun h3 => ?_)
 · refine AW.g ?_
   refine At.a 2 ?_
   refine At.c (impl_reader_num_spec  r hr) Try.call46 true [(0, 0)] [] [] trivial ?_
   refine At.z 3 ?_
   refine ⟨_, (Sub.trans (Sub.refl _ _) (Sub.mv 2 8002 (by kernel_rfl) (by decide))), ?_⟩
   exact k2 (K_impl_reader_field _ r m field) (show (((rdNum r).1)) = ((rdField r m field.toNat).1) from by simp only [rdField, h1, h2, h3, if_true, if_false, Int.reduceEq, reduceIte, Bool.or_true, Bool.or_false, decide_true, decide_false, Bool.true_or, Bool.false_or] <;> rfl) (show ((⟨m.kind, m.from_, m.term, (rdNum r).2, m.atTerm, m.commit, m.yes, m.release, m.part, m.bytes, m.cmd, m.entries⟩ : Msg)) = ((rdField r m field.toNat).2) from by simp only [rdField, h1, h2, h3, if_true, if_false, Int.reduceEq, reduceIte, Bool.or_true, Bool.or_false, decide_true, decide_false, Bool.true_or, Bool.false_or] <;> rfl) (KF.n [(0, 0), (1, 1), (2, 2), (8002, 3)])
 refine AW.q 2 ?_
 refine AW.cE (field.toNat : Int) (120 : Int) (fun h4 => ?_) (fun h4 => ?_)
 · refine AW.g ?_
   refine At.a 2 ?_
   refine At.c (impl_reader_num_spec  r hr) Try.call46 true [(0, 0)] [] [] trivial ?_
   refine At.z 3 ?_
   refine ⟨_, (Sub.trans (Sub.refl _ _) (Sub.mv 2 8002 (by kernel_rfl) (by decide))), ?_⟩
   exact k2 (K_impl_reader_field _ r m field) (show (((rdNum r).1)) = ((rdField r m field.toNat).1) from by simp only [rdField, h1, h2, h3, h4, if_true, if_false, Int.reduceEq, reduceIte, Bool.or_true, Bool.or_false, decide_true, decide_false, Bool.true_or, Bool.false_or] <;> rfl) (show ((⟨m.kind, m.from_, m.term, m.at_, (rdNum r).2, m.commit, m.yes, m.release, m.part, m.bytes, m.cmd, m.entries⟩ : Msg)) = ((rdField r m field.toNat).2) from by simp only [rdField, h1, h2, h3, h4, if_true, if_false, Int.reduceEq, reduceIte, Bool.or_true, Bool.or_false, decide_true, decide_false, Bool.true_or, Bool.false_or] <;> rfl) (KF.n [(0, 0), (1, 1), (2, 2), (8002, 3)])
 refine AW.q 2 ?_
 refine AW.cE (field.toNat : Int) (99 : Int) (fun h5 => ?_) (fun h5 => ?_)
 · refine AW.g ?_
   refine At.a 2 ?_
   refine At.c (impl_reader_num_spec  r hr) Try.call46 true [(0, 0)] [] [] trivial ?_
   refine At.z 3 ?_
   refine ⟨_, (Sub.trans (Sub.refl _ _) (Sub.mv 2 8002 (by kernel_rfl) (by decide))), ?_⟩
   exact k2 (K_impl_reader_field _ r m field) (show (((rdNum r).1)) = ((rdField r m field.toNat).1) from by simp only [rdField, h1, h2, h3, h4, h5, if_true, if_false, Int.reduceEq, reduceIte, Bool.or_true, Bool.or_false, decide_true, decide_false, Bool.true_or, Bool.false_or] <;> rfl) (show ((⟨m.kind, m.from_, m.term, m.at_, m.atTerm, (rdNum r).2, m.yes, m.release, m.part, m.bytes, m.cmd, m.entries⟩ : Msg)) = ((rdField r m field.toNat).2) from by simp only [rdField, h1, h2, h3, h4, h5, if_true, if_false, Int.reduceEq, reduceIte, Bool.or_true, Bool.or_false, decide_true, decide_false, Bool.true_or, Bool.false_or] <;> rfl) (KF.n [(0, 0), (1, 1), (2, 2), (8002, 3)])
 refine AW.q 2 ?_
 refine AW.cE (field.toNat : Int) (121 : Int) (fun h6 => ?_) (fun h6 => ?_)
 · refine AW.r ?_
   refine At.a 1 ?_
   refine At.c (impl_reader_num_spec  r hr) Try.call46 true [(0, 0)] [] [] trivial ?_
   refine At.z 1 ?_
   refine AW.q 6 ?_
   refine AW.g ?_
   refine At.a 6 ?_
   by_cases h7 : (((rdNum r).1).bad) = true
   · refine At.sB 62 (((rdNum r).1).bad) true (sayB h7) ?_
     refine At.z 6 ?_
     refine ⟨_, (Sub.trans (Sub.refl _ _) (Sub.mv 2 8002 (by kernel_rfl) (by decide))), ?_⟩
     exact k2 (K_impl_reader_field _ r m field) (show ((⟨((rdNum r).1).b, ((rdNum r).1).at_, true⟩ : Rd)) = ((rdField r m field.toNat).1) from by simp only [rdField, h1, h2, h3, h4, h5, h6, h7, if_true, if_false, Int.reduceEq, reduceIte, Bool.or_true, Bool.or_false, decide_true, decide_false, Bool.true_or, Bool.false_or] <;> rfl) (show ((⟨m.kind, m.from_, m.term, m.at_, m.atTerm, m.commit, ((rdNum r).2) == 1, m.release, m.part, m.bytes, m.cmd, m.entries⟩ : Msg)) = ((rdField r m field.toNat).2) from by simp only [rdField, h1, h2, h3, h4, h5, h6, h7, if_true, if_false, Int.reduceEq, reduceIte, Bool.or_true, Bool.or_false, decide_true, decide_false, Bool.true_or, Bool.false_or] <;> rfl) (KF.n [(0, 0), (1, 1), (2, 2), (8002, 3)])
   refine At.sB 62 (((rdNum r).1).bad) false (sayB (Bool.eq_false_iff.2 h7)) ?_
   replace h7 := Bool.eq_false_iff.2 h7
   refine At.z 6 ?_
   refine ⟨_, (Sub.trans (Sub.refl _ _) (Sub.mv 2 8002 (by kernel_rfl) (by decide))), ?_⟩
   exact k2 (K_impl_reader_field _ r m field) (show ((⟨((rdNum r).1).b, ((rdNum r).1).at_, decide (((rdNum r).2) > 1)⟩ : Rd)) = ((rdField r m field.toNat).1) from by simp only [rdField, h1, h2, h3, h4, h5, h6, h7, if_true, if_false, Int.reduceEq, reduceIte, Bool.or_true, Bool.or_false, decide_true, decide_false, Bool.true_or, Bool.false_or] <;> rfl) (show ((⟨m.kind, m.from_, m.term, m.at_, m.atTerm, m.commit, ((rdNum r).2) == 1, m.release, m.part, m.bytes, m.cmd, m.entries⟩ : Msg)) = ((rdField r m field.toNat).2) from by simp only [rdField, h1, h2, h3, h4, h5, h6, h7, if_true, if_false, Int.reduceEq, reduceIte, Bool.or_true, Bool.or_false, decide_true, decide_false, Bool.true_or, Bool.false_or] <;> rfl) (KF.n [(0, 0), (1, 1), (2, 2), (8002, 3)])
 refine AW.q 2 ?_
 refine AW.cE (field.toNat : Int) (114 : Int) (fun h8 => ?_) (fun h8 => ?_)
 · refine AW.g ?_
   refine At.a 2 ?_
   refine At.c (impl_reader_num_spec  r hr) Try.call46 true [(0, 0)] [] [] trivial ?_
   refine At.z 3 ?_
   refine ⟨_, (Sub.trans (Sub.refl _ _) (Sub.mv 2 8002 (by kernel_rfl) (by decide))), ?_⟩
   exact k2 (K_impl_reader_field _ r m field) (show (((rdNum r).1)) = ((rdField r m field.toNat).1) from by simp only [rdField, h1, h2, h3, h4, h5, h6, h8, if_true, if_false, Int.reduceEq, reduceIte, Bool.or_true, Bool.or_false, decide_true, decide_false, Bool.true_or, Bool.false_or] <;> rfl) (show ((⟨m.kind, m.from_, m.term, m.at_, m.atTerm, m.commit, m.yes, (rdNum r).2, m.part, m.bytes, m.cmd, m.entries⟩ : Msg)) = ((rdField r m field.toNat).2) from by simp only [rdField, h1, h2, h3, h4, h5, h6, h8, if_true, if_false, Int.reduceEq, reduceIte, Bool.or_true, Bool.or_false, decide_true, decide_false, Bool.true_or, Bool.false_or] <;> rfl) (KF.n [(0, 0), (1, 1), (2, 2), (8002, 3)])
 refine AW.q 2 ?_
 refine AW.cE (field.toNat : Int) (112 : Int) (fun h9 => ?_) (fun h9 => ?_)
 · refine AW.g ?_
   refine At.a 2 ?_
   refine At.c (impl_reader_num_spec  r hr) Try.call46 true [(0, 0)] [] [] trivial ?_
   refine At.z 3 ?_
   refine ⟨_, (Sub.trans (Sub.refl _ _) (Sub.mv 2 8002 (by kernel_rfl) (by decide))), ?_⟩
   exact k2 (K_impl_reader_field _ r m field) (show (((rdNum r).1)) = ((rdField r m field.toNat).1) from by simp only [rdField, h1, h2, h3, h4, h5, h6, h8, h9, if_true, if_false, Int.reduceEq, reduceIte, Bool.or_true, Bool.or_false, decide_true, decide_false, Bool.true_or, Bool.false_or] <;> rfl) (show ((⟨m.kind, m.from_, m.term, m.at_, m.atTerm, m.commit, m.yes, m.release, (rdNum r).2, m.bytes, m.cmd, m.entries⟩ : Msg)) = ((rdField r m field.toNat).2) from by simp only [rdField, h1, h2, h3, h4, h5, h6, h8, h9, if_true, if_false, Int.reduceEq, reduceIte, Bool.or_true, Bool.or_false, decide_true, decide_false, Bool.true_or, Bool.false_or] <;> rfl) (KF.n [(0, 0), (1, 1), (2, 2), (8002, 3)])
 refine AW.q 2 ?_
 refine AW.cE (field.toNat : Int) (98 : Int) (fun h10 => ?_) (fun h10 => ?_)
 · refine AW.g ?_
   refine At.a 2 ?_
   refine At.c (impl_reader_text_spec  r hr) Try.call77 true [(0, 0)] [] [] trivial ?_
   refine At.z 3 ?_
   refine ⟨_, (Sub.trans (Sub.refl _ _) (Sub.mv 2 8002 (by kernel_rfl) (by decide))), ?_⟩
   exact k2 (K_impl_reader_field _ r m field) (show (((rdText r).1)) = ((rdField r m field.toNat).1) from by simp only [rdField, h1, h2, h3, h4, h5, h6, h8, h9, h10, if_true, if_false, Int.reduceEq, reduceIte, Bool.or_true, Bool.or_false, decide_true, decide_false, Bool.true_or, Bool.false_or] <;> rfl) (show ((⟨m.kind, m.from_, m.term, m.at_, m.atTerm, m.commit, m.yes, m.release, m.part, (rdText r).2, m.cmd, m.entries⟩ : Msg)) = ((rdField r m field.toNat).2) from by simp only [rdField, h1, h2, h3, h4, h5, h6, h8, h9, h10, if_true, if_false, Int.reduceEq, reduceIte, Bool.or_true, Bool.or_false, decide_true, decide_false, Bool.true_or, Bool.false_or] <;> rfl) (KF.n [(0, 0), (1, 1), (2, 2), (8002, 3)])
 refine AW.q 2 ?_
 refine AW.cE (field.toNat : Int) (100 : Int) (fun h11 => ?_) (fun h11 => ?_)
 · refine AW.g ?_
   refine At.a 2 ?_
   refine At.c (impl_reader_cmd_spec  r hr) Try.call78 true [(0, 0)] [] [] trivial ?_
   refine At.z 3 ?_
   refine ⟨_, (Sub.trans (Sub.refl _ _) (Sub.mv 2 8002 (by kernel_rfl) (by decide))), ?_⟩
   exact k2 (K_impl_reader_field _ r m field) (show (((rdCmd r).1)) = ((rdField r m field.toNat).1) from by simp only [rdField, h1, h2, h3, h4, h5, h6, h8, h9, h10, h11, if_true, if_false, Int.reduceEq, reduceIte, Bool.or_true, Bool.or_false, decide_true, decide_false, Bool.true_or, Bool.false_or] <;> rfl) (show ((⟨m.kind, m.from_, m.term, m.at_, m.atTerm, m.commit, m.yes, m.release, m.part, m.bytes, ((rdCmd r).2), m.entries⟩ : Msg)) = ((rdField r m field.toNat).2) from by simp only [rdField, h1, h2, h3, h4, h5, h6, h8, h9, h10, h11, if_true, if_false, Int.reduceEq, reduceIte, Bool.or_true, Bool.or_false, decide_true, decide_false, Bool.true_or, Bool.false_or] <;> rfl) (KF.n [(0, 0), (1, 1), (2, 2), (8002, 3)])
 refine AW.g ?_
 refine At.a 2 ?_
 refine At.c (impl_reader_entries_spec  r hr) Try.call79 true [(0, 0)] [(1200, 1)] [] trivial ?_
 refine At.z 3 ?_
 refine ⟨_, (Sub.trans (Sub.refl _ _) (Sub.mv 2 8002 (by kernel_rfl) (by decide))), ?_⟩
 exact k2 (K_impl_reader_field _ r m field) (show (((rdEnts r).1)) = ((rdField r m field.toNat).1) from by simp only [rdField, h1, h2, h3, h4, h5, h6, h8, h9, h10, h11, if_true, if_false, Int.reduceEq, reduceIte, Bool.or_true, Bool.or_false, decide_true, decide_false, Bool.true_or, Bool.false_or] <;> rfl) (show ((⟨m.kind, m.from_, m.term, m.at_, m.atTerm, m.commit, m.yes, m.release, m.part, m.bytes, m.cmd, (rdEnts r).2⟩ : Msg)) = ((rdField r m field.toNat).2) from by simp only [rdField, h1, h2, h3, h4, h5, h6, h8, h9, h10, h11, if_true, if_false, Int.reduceEq, reduceIte, Bool.or_true, Bool.or_false, decide_true, decide_false, Bool.true_or, Bool.false_or] <;> rfl) (KF.n [(0, 0), (1, 1), (2, 2), (1200, 3)])
theorem impl_reader_done_spec  (r : Rd) (hr : RdOk r) : FnSpec Try.prog 48 [.ptr 0 0 0] [.box 70 [.sl false 1 (r.b.map encU8), .int .i64 r.at_, .bool r.bad]] (.bool (!r.bad && (r.at_ == (r.b.length : Int)))) [.box 70 [.sl false 1 (r.b.map encU8), .int .i64 r.at_, .bool r.bad]] := by
 obtain ⟨r1, r2, r3⟩ := id hr
 have hgn := getN_num r.b (at_ := r.at_)
 refine FnSpec.of 20 Try.func48 rfl Try.ntmps48 (by simp) (AW.weakK ?_)
 refine AW.q 1 ?_
 refine AW.seq ?_
 refine AW.gD Try_mix ?_
 refine At.a 6 ?_
 by_cases h1 : r.bad = true
 · refine At.sB 8 (!r.bad) false (sayNF (sayB h1)) ?_
   refine At.zD 12 ?_
   refine AW.ret ?_
   refine ⟨_, Sub.refl _ _, ?_⟩
   refine KF.conv (fun w => .bool w) (fun w => [.box 70 [.sl false 1 (r.b.map encU8), .int .i64 r.at_, .bool r.bad]]) (show (false) = (!r.bad && (r.at_ == (r.b.length : Int))) from by simp [*]) ?_
   exact KF.n [(0, 0)]
 refine At.sB 8 (!r.bad) true (sayNT (sayB (Bool.eq_false_iff.2 h1))) ?_
 replace h1 := Bool.eq_false_iff.2 h1
 refine At.a 9 ?_
 refine At.sL 17 encU8 r.b ?_
 refine At.zD 3 ?_
 refine AW.ret ?_
 refine ⟨_, Sub.refl _ _, ?_⟩
 refine KF.conv (fun w => .bool w) (fun w => [.box 70 [.sl false 1 (r.b.map encU8), .int .i64 r.at_, .bool r.bad]]) (show (r.at_ == (r.b.length : Int)) = (!r.bad && (r.at_ == (r.b.length : Int))) from by simp [*]) ?_
 exact KF.n [(0, 0)]
theorem impl_isWhole_spec  (n : Int) : FnSpec Try.prog 84 [.int .i64 n] [] (.bool (inR n 0 1000000000)) [] := by
 refine FnSpec.of 5 Try.func84 rfl Try.ntmps84 (by simp) (AW.weakK ?_)
 refine AW.q 1 ?_
 refine AW.r ?_
 refine At.a 1 ?_
 refine At.c (impl_within_spec  n 0 1000000000 ) Try.call85 true [] [] [] trivial ?_
 refine At.z 1 ?_
 exact AW.ret (rf (KF.n []))
theorem impl_entryOk_spec  (e : Ent) : FnSpec Try.prog 95 [.agg [.int .i64 e.term, .int .i64 e.cmd.kind, .int .i64 e.cmd.release, .int .i64 e.cmd.node, .int .i64 e.cmd.size, .str e.cmd.digest]] [] (.bool (entOk e)) [] := by
 refine FnSpec.of 11 Try.func95 rfl Try.ntmps95 (by simp) (AW.weakK ?_)
 refine AW.q 2 ?_
 refine AW.r ?_
 refine At.a 2 ?_
 refine At.c (impl_within_spec  e.term 1 1000000000 ) Try.call85 true [] [] [] trivial ?_
 refine At.a 1 ?_
 by_cases h1 : (inR e.term 1 1000000000) = true
 · refine At.sB 6 (inR e.term 1 1000000000) true (sayB h1) ?_
   have h1i := inR_iff.1 h1
   refine At.a 2 ?_
   refine At.c (impl_CmdOk_spec  e.cmd ) Try.call88 true [] [] [] trivial ?_
   refine At.z 2 ?_
   refine AW.ret ?_
   refine ⟨_, Sub.refl _ _, ?_⟩
   refine KF.conv (fun w => .bool w) (fun w => []) (show (cmdOk e.cmd) = (entOk e) from by (try simp only [inR_iff, inR_not] at *); rw [Bool.eq_iff_iff]; simp only [entOk, noBytes]; (repeat' split) <;> (try simp [inR_iff]) <;> grind) ?_
   exact KF.n []
 refine At.sB 6 (inR e.term 1 1000000000) false (sayB (Bool.eq_false_iff.2 h1)) ?_
 replace h1 := Bool.eq_false_iff.2 h1
 refine At.z 5 ?_
 refine AW.ret ?_
 refine ⟨_, Sub.refl _ _, ?_⟩
 refine KF.conv (fun w => .bool w) (fun w => []) (show (false) = (entOk e) from by (try simp only [inR_iff, inR_not] at *); rw [Bool.eq_iff_iff]; simp only [entOk, noBytes]; (repeat' split) <;> (try simp [inR_iff]) <;> grind) ?_
 exact KF.n []
theorem impl_entriesOk_spec  (list : List Ent) (hl : list.length ≤ 1048576) : FnSpec Try.prog 89 [.sl false 6 (list.map encEnt)] [] (.bool (entsFit list)) [] := by
 refine FnSpec.of 18 Try.func89 rfl Try.ntmps89 (by simp) (AW.weakK ?_)
 refine AW.q 1 ?_
 refine AW.seq ?_
 refine AW.r ?_
 refine At.a 2 ?_
 refine At.sL 6 encEnt list ?_
 refine At.z 1 ?_
 refine AW.block ?_
 refine AW.loopW (fun (k : Nat) => Go.Sy.mk [.sl false 6 (list.map encEnt), .un, .un, .un, .un, .sl false 6 (list.map encEnt), .int .i64 (list.length : Int), .int .i64 (k : Int)] []) (fun (k : Nat) => k ≤ list.length ∧ entsOk list = entsOk (list.drop k)) (fun (k : Nat) => list.length - k) 0 ⟨by omega, by rw [List.drop_zero]⟩ (Sub.o [] [true, false, false, false, false, true, true, true]) ?_
 rintro k ⟨hk, hR⟩
 refine AW.q 1 ?_
 refine AW.seq ?_
 refine AW.cD ((k : Int) < (list.length : Int)) (fun h1 => ?_) (fun h1 => ?_)
 · refine AW.skip ?_
   refine AW.seq ?_
   refine AW.block ?_
   refine AW.r ?_
   refine At.iSl 32 9 (.tmp 5) (.tmp 7) false 6 (list.map encEnt) .i64 (k : Int) 56 (by omega) (by simp only [List.length_map]; omega) ?_
   refine Exists.elim (gE list k (by omega)) fun e1 he1 => ?_
   refine At.lVp 56 10 (.tmp 9) false 6 (list.map encEnt) k 0 true 6 (encEnt e1) (.agg [.int .i64 e1.term, .int .i64 e1.cmd.kind, .int .i64 e1.cmd.release, .int .i64 e1.cmd.node, .int .i64 e1.cmd.size, .str e1.cmd.digest]) (mapGet he1) ?_
   refine At.z 2 ?_
   refine AW.r ?_
   refine At.a 1 ?_
   refine At.c (impl_entryOk_spec  e1 ) Try.call95 true [] [] [] trivial ?_
   refine At.z 1 ?_
   refine AW.cNB (entOk e1) (fun h2 => ?_) (fun h2 => ?_)
   · refine AW.q 1 ?_
     refine AW.ret ?_
     refine ⟨_, Sub.refl _ _, ?_⟩
     refine KF.conv (fun w => .bool w) (fun w => []) (show (false) = (entsFit list) from by rw [dropCons he1] at hR; grind [entsFit, entsOk]) ?_
     exact KF.n []
   have h2n := entOk_nums h2
   refine AW.skip ?_
   refine AW.g ?_
   refine At.a 1 ?_
   refine At.sI 14 ((k : Int) + 1) (by omega) ?_
   refine At.z 1 ?_
   exact ⟨k + 1, ⟨by omega, by rw [hR, dropCons he1, entsOk]; simp only [*, Bool.true_and]⟩, (by omega), Sub.o [] [true, false, false, false, false, true, true, true]⟩
 refine AW.exit ?_
 refine AW.r ?_
 refine At.a 2 ?_
 refine At.sL 16 encEnt list ?_
 refine At.z 2 ?_
 refine AW.ret ?_
 refine ⟨_, Sub.refl _ _, ?_⟩
 refine KF.conv (fun w => .bool w) (fun w => []) (show (decide ((list.length : Int) ≤ 6)) = (entsFit list) from by rw [List.drop_of_length_le (by omega)] at hR; grind [entsFit, entsOk]) ?_
 exact KF.n []
def K_impl_Msg_take (rs : List ResultVar) (m : Msg) (field : UInt8) (w0_ : Bool) (w1_ : Msg) : Exit → Sg → Prop := KF Try.prog 1 rs (.bool w0_) [.box 34 [.int .i64 w1_.kind, .int .i64 w1_.from_, .int .i64 w1_.term, .int .i64 w1_.at_, .int .i64 w1_.atTerm, .int .i64 w1_.commit, .bool w1_.yes, .int .i64 w1_.release, .int .i64 w1_.part, .str w1_.bytes, .int .i64 w1_.cmd.kind, .int .i64 w1_.cmd.release, .int .i64 w1_.cmd.node, .int .i64 w1_.cmd.size, .str w1_.cmd.digest, .sl false 6 (w1_.entries.map encEnt)]]
theorem impl_Msg_take_spec  (m : Msg) (field : UInt8) (hl : m.entries.length ≤ 1048576) : FnSpec Try.prog 66 [.ptr 0 0 0, .int .u8 (field.toNat : Int)] [.box 34 [.int .i64 m.kind, .int .i64 m.from_, .int .i64 m.term, .int .i64 m.at_, .int .i64 m.atTerm, .int .i64 m.commit, .bool m.yes, .int .i64 m.release, .int .i64 m.part, .str m.bytes, .int .i64 m.cmd.kind, .int .i64 m.cmd.release, .int .i64 m.cmd.node, .int .i64 m.cmd.size, .str m.cmd.digest, .sl false 6 (m.entries.map encEnt)]] (.bool (takeOk m field.toNat)) [.box 34 [.int .i64 ((takeM m field.toNat).kind), .int .i64 ((takeM m field.toNat).from_), .int .i64 ((takeM m field.toNat).term), .int .i64 ((takeM m field.toNat).at_), .int .i64 ((takeM m field.toNat).atTerm), .int .i64 ((takeM m field.toNat).commit), .bool ((takeM m field.toNat).yes), .int .i64 ((takeM m field.toNat).release), .int .i64 ((takeM m field.toNat).part), .str ((takeM m field.toNat).bytes), .int .i64 ((takeM m field.toNat).cmd.kind), .int .i64 ((takeM m field.toNat).cmd.release), .int .i64 ((takeM m field.toNat).cmd.node), .int .i64 ((takeM m field.toNat).cmd.size), .str ((takeM m field.toNat).cmd.digest), .sl false 6 (((takeM m field.toNat).entries).map encEnt)]] := by
 refine FnSpec.of 113 Try.func66 rfl Try.ntmps66 (by simp) (AW.weakK ?_)
 refine AW.q 1 ?_
 refine AW.q 1 ?_
 refine AW.seq ?_
 refine AW.q 1 ?_
 refine AW.block ?_
 refine AW.q 2 ?_
 refine AW.cE (field.toNat : Int) (102 : Int) (fun h1 => ?_) (fun h1 => ?_)
 · refine AW.g ?_
   refine At.a 5 ?_
   refine At.c (impl_isNode_spec  m.from_ ) Try.call83 true [] [] [] trivial ?_
   refine At.z 4 ?_
   refine AW.q 2 ?_
   exact AW.ret (rf (k2 (K_impl_Msg_take _ m field) (show (inR m.from_ 0 4) = (takeOk m field.toNat) from by simp only [takeOk, takeM, h1, if_true, if_false] <;> rfl) (show ((⟨m.kind, 0, m.term, m.at_, m.atTerm, m.commit, m.yes, m.release, m.part, m.bytes, m.cmd, m.entries⟩ : Msg)) = (takeM m field.toNat) from by simp only [takeOk, takeM, h1, if_true, if_false] <;> rfl) (KF.n [(0, 0)])))
 refine AW.q 2 ?_
 refine AW.cE (field.toNat : Int) (116 : Int) (fun h2 => ?_) (fun h2 => ?_)
 · refine AW.g ?_
   refine At.a 5 ?_
   refine At.c (impl_isWhole_spec  m.term ) Try.call84 true [] [] [] trivial ?_
   refine At.z 4 ?_
   refine AW.q 2 ?_
   exact AW.ret (rf (k2 (K_impl_Msg_take _ m field) (show (inR m.term 0 1000000000) = (takeOk m field.toNat) from by simp only [takeOk, takeM, h1, h2, if_true, if_false] <;> rfl) (show ((⟨m.kind, m.from_, 0, m.at_, m.atTerm, m.commit, m.yes, m.release, m.part, m.bytes, m.cmd, m.entries⟩ : Msg)) = (takeM m field.toNat) from by simp only [takeOk, takeM, h1, h2, if_true, if_false] <;> rfl) (KF.n [(0, 0)])))
 refine AW.q 2 ?_
 refine AW.cE (field.toNat : Int) (97 : Int) (fun h3 => ?_) (fun h3 => ?_)
 · refine AW.g ?_
   refine At.a 5 ?_
   refine At.c (impl_within_spec  m.at_ 0 80 ) Try.call85 true [] [] [] trivial ?_
   refine At.z 4 ?_
   refine AW.q 2 ?_
   exact AW.ret (rf (k2 (K_impl_Msg_take _ m field) (show (inR m.at_ 0 80) = (takeOk m field.toNat) from by simp only [takeOk, takeM, h1, h2, h3, if_true, if_false] <;> rfl) (show ((⟨m.kind, m.from_, m.term, 0, m.atTerm, m.commit, m.yes, m.release, m.part, m.bytes, m.cmd, m.entries⟩ : Msg)) = (takeM m field.toNat) from by simp only [takeOk, takeM, h1, h2, h3, if_true, if_false] <;> rfl) (KF.n [(0, 0)])))
 refine AW.q 2 ?_
 refine AW.cE (field.toNat : Int) (120 : Int) (fun h4 => ?_) (fun h4 => ?_)
 · refine AW.g ?_
   refine At.a 5 ?_
   refine At.c (impl_isWhole_spec  m.atTerm ) Try.call84 true [] [] [] trivial ?_
   refine At.z 4 ?_
   refine AW.q 2 ?_
   exact AW.ret (rf (k2 (K_impl_Msg_take _ m field) (show (inR m.atTerm 0 1000000000) = (takeOk m field.toNat) from by simp only [takeOk, takeM, h1, h2, h3, h4, if_true, if_false] <;> rfl) (show ((⟨m.kind, m.from_, m.term, m.at_, 0, m.commit, m.yes, m.release, m.part, m.bytes, m.cmd, m.entries⟩ : Msg)) = (takeM m field.toNat) from by simp only [takeOk, takeM, h1, h2, h3, h4, if_true, if_false] <;> rfl) (KF.n [(0, 0)])))
 refine AW.q 2 ?_
 refine AW.cE (field.toNat : Int) (99 : Int) (fun h5 => ?_) (fun h5 => ?_)
 · refine AW.g ?_
   refine At.a 5 ?_
   refine At.c (impl_within_spec  m.commit 0 80 ) Try.call85 true [] [] [] trivial ?_
   refine At.z 4 ?_
   refine AW.q 2 ?_
   exact AW.ret (rf (k2 (K_impl_Msg_take _ m field) (show (inR m.commit 0 80) = (takeOk m field.toNat) from by simp only [takeOk, takeM, h1, h2, h3, h4, h5, if_true, if_false] <;> rfl) (show ((⟨m.kind, m.from_, m.term, m.at_, m.atTerm, 0, m.yes, m.release, m.part, m.bytes, m.cmd, m.entries⟩ : Msg)) = (takeM m field.toNat) from by simp only [takeOk, takeM, h1, h2, h3, h4, h5, if_true, if_false] <;> rfl) (KF.n [(0, 0)])))
 refine AW.q 2 ?_
 refine AW.cE (field.toNat : Int) (121 : Int) (fun h6 => ?_) (fun h6 => ?_)
 · refine AW.gq 4 ?_
   refine AW.q 2 ?_
   exact AW.ret (rf (k2 (K_impl_Msg_take _ m field) (show (true) = (takeOk m field.toNat) from by simp only [takeOk, takeM, h1, h2, h3, h4, h5, h6, if_true, if_false] <;> rfl) (show ((⟨m.kind, m.from_, m.term, m.at_, m.atTerm, m.commit, false, m.release, m.part, m.bytes, m.cmd, m.entries⟩ : Msg)) = (takeM m field.toNat) from by simp only [takeOk, takeM, h1, h2, h3, h4, h5, h6, if_true, if_false] <;> rfl) (KF.n [(0, 0)])))
 refine AW.q 2 ?_
 refine AW.cE (field.toNat : Int) (114 : Int) (fun h7 => ?_) (fun h7 => ?_)
 · refine AW.g ?_
   refine At.a 5 ?_
   refine At.c (impl_isRelease_spec  m.release ) Try.call86 true [] [] [] trivial ?_
   refine At.z 4 ?_
   refine AW.q 2 ?_
   exact AW.ret (rf (k2 (K_impl_Msg_take _ m field) (show (inR m.release 1 1000) = (takeOk m field.toNat) from by simp only [takeOk, takeM, h1, h2, h3, h4, h5, h6, h7, if_true, if_false] <;> rfl) (show ((⟨m.kind, m.from_, m.term, m.at_, m.atTerm, m.commit, m.yes, 0, m.part, m.bytes, m.cmd, m.entries⟩ : Msg)) = (takeM m field.toNat) from by simp only [takeOk, takeM, h1, h2, h3, h4, h5, h6, h7, if_true, if_false] <;> rfl) (KF.n [(0, 0)])))
 refine AW.q 2 ?_
 refine AW.cE (field.toNat : Int) (112 : Int) (fun h8 => ?_) (fun h8 => ?_)
 · refine AW.g ?_
   refine At.a 5 ?_
   refine At.c (impl_isSize_spec  m.part ) Try.call87 true [] [] [] trivial ?_
   refine At.z 4 ?_
   refine AW.q 2 ?_
   exact AW.ret (rf (k2 (K_impl_Msg_take _ m field) (show (inR m.part 0 1000) = (takeOk m field.toNat) from by simp only [takeOk, takeM, h1, h2, h3, h4, h5, h6, h7, h8, if_true, if_false] <;> rfl) (show ((⟨m.kind, m.from_, m.term, m.at_, m.atTerm, m.commit, m.yes, m.release, 0, m.bytes, m.cmd, m.entries⟩ : Msg)) = (takeM m field.toNat) from by simp only [takeOk, takeM, h1, h2, h3, h4, h5, h6, h7, h8, if_true, if_false] <;> rfl) (KF.n [(0, 0)])))
 refine AW.q 2 ?_
 refine AW.cE (field.toNat : Int) (98 : Int) (fun h9 => ?_) (fun h9 => ?_)
 · refine AW.g ?_
   refine At.a 6 ?_
   refine At.c (impl_within_spec  (m.bytes.size : Int) 1 16 ) Try.call85 true [] [] [] trivial ?_
   refine At.z 4 ?_
   refine AW.q 2 ?_
   exact AW.ret (rf (k2 (K_impl_Msg_take _ m field) (show (inR (m.bytes.size : Int) 1 16) = (takeOk m field.toNat) from by simp only [takeOk, takeM, h1, h2, h3, h4, h5, h6, h7, h8, h9, if_true, if_false] <;> rfl) (show ((⟨m.kind, m.from_, m.term, m.at_, m.atTerm, m.commit, m.yes, m.release, m.part, (⟨#[]⟩ : ByteArray), m.cmd, m.entries⟩ : Msg)) = (takeM m field.toNat) from by simp only [takeOk, takeM, h1, h2, h3, h4, h5, h6, h7, h8, h9, if_true, if_false] <;> rfl) (KF.n [(0, 0)])))
 refine AW.q 2 ?_
 refine AW.cE (field.toNat : Int) (100 : Int) (fun h10 => ?_) (fun h10 => ?_)
 · refine AW.g ?_
   refine At.a 5 ?_
   refine At.c (impl_CmdOk_spec  m.cmd ) Try.call88 true [] [] [] trivial ?_
   refine At.z 5 ?_
   refine AW.q 2 ?_
   exact AW.ret (rf (k2 (K_impl_Msg_take _ m field) (show (cmdOk m.cmd) = (takeOk m field.toNat) from by simp only [takeOk, takeM, h1, h2, h3, h4, h5, h6, h7, h8, h9, h10, if_true, if_false] <;> rfl) (show ((⟨m.kind, m.from_, m.term, m.at_, m.atTerm, m.commit, m.yes, m.release, m.part, m.bytes, ⟨0, 0, 0, 0, (⟨#[]⟩ : ByteArray)⟩, m.entries⟩ : Msg)) = (takeM m field.toNat) from by simp only [takeOk, takeM, h1, h2, h3, h4, h5, h6, h7, h8, h9, h10, if_true, if_false] <;> rfl) (KF.n [(0, 0)])))
 refine AW.g ?_
 refine At.a 5 ?_
 refine At.c (impl_entriesOk_spec  m.entries (by omega)) Try.call89 true [] [] [] trivial ?_
 refine At.z 4 ?_
 refine AW.seq ?_
 refine AW.weak (Sub.nsl 0 15 34 6 [.int .i64 m.kind, .int .i64 m.from_, .int .i64 m.term, .int .i64 m.at_, .int .i64 m.atTerm, .int .i64 m.commit, .bool m.yes, .int .i64 m.release, .int .i64 m.part, .str m.bytes, .int .i64 m.cmd.kind, .int .i64 m.cmd.release, .int .i64 m.cmd.node, .int .i64 m.cmd.size, .str m.cmd.digest, .nil] (by kernel_rfl)) ?_
 refine AW.gq 2 ?_
 exact AW.ret (rf (k2 (K_impl_Msg_take _ m field) (show (entsFit m.entries) = (takeOk m field.toNat) from by simp only [takeOk, takeM, h1, h2, h3, h4, h5, h6, h7, h8, h9, h10, if_true, if_false] <;> rfl) (show ((⟨m.kind, m.from_, m.term, m.at_, m.atTerm, m.commit, m.yes, m.release, m.part, m.bytes, m.cmd, []⟩ : Msg)) = (takeM m field.toNat) from by simp only [takeOk, takeM, h1, h2, h3, h4, h5, h6, h7, h8, h9, h10, if_true, if_false] <;> rfl) (KF.n [(0, 0)])))
theorem slices_Equal_spec  (s1 : List Ent) (s2 : List Ent) (ha : s1.length ≤ 1048576) (hb : s2.length ≤ 1048576) : FnSpec Try.prog 56 [.sl false 6 (s1.map encEnt), .sl false 6 (s2.map encEnt)] [] (.bool (listEq entEq s1 s2)) [] := by
 refine FnSpec.of 26 Try.func56 rfl Try.ntmps56 (by simp) (AW.weakK ?_)
 refine AW.q 1 ?_
 refine AW.seq ?_
 refine AW.r ?_
 refine At.a 2 ?_
 refine At.sL 7 encEnt s1 ?_
 refine At.a 2 ?_
 refine At.sL 9 encEnt s2 ?_
 refine At.z 1 ?_
 refine AW.cU (s1.length : Int) (s2.length : Int) (fun h1 => ?_) (fun h1 => ?_)
 · refine AW.q 1 ?_
   refine AW.ret ?_
   refine ⟨_, Sub.refl _ _, ?_⟩
   refine KF.conv (fun w => .bool w) (fun w => []) (show (false) = (listEq entEq s1 s2) from by rw [listEq_len (by omega)]) ?_
   exact KF.n []
 refine AW.skip ?_
 refine AW.seq ?_
 refine AW.r ?_
 refine At.a 2 ?_
 refine At.sL 12 encEnt s1 ?_
 refine At.z 1 ?_
 refine AW.block ?_
 refine AW.loopW (fun (k : Nat) => Go.Sy.mk [.sl false 6 (s1.map encEnt), .sl false 6 (s2.map encEnt), .un, .un, .un, .un, .un, .un, .un, .un, .un, .un, .int .i64 (s1.length : Int), .int .i64 (k : Int)] []) (fun (k : Nat) => k ≤ s1.length ∧ listEq entEq s1 s2 = listEq entEq (s1.drop k) (s2.drop k)) (fun (k : Nat) => s1.length - k) 0 ⟨by omega, by rw [List.drop_zero, List.drop_zero]⟩ (Sub.o [] [true, true, false, false, false, false, false, false, false, false, false, false, true, true]) ?_
 rintro k ⟨hk, hR⟩
 refine AW.q 1 ?_
 refine AW.seq ?_
 refine AW.cD ((k : Int) < (s1.length : Int)) (fun h2 => ?_) (fun h2 => ?_)
 · refine AW.skip ?_
   refine AW.seq ?_
   refine AW.block ?_
   refine AW.q 2 ?_
   refine AW.seq ?_
   refine AW.gD Try_mix ?_
   refine At.a 2 ?_
   refine At.iSl 32 18 (.tmp 16) (.tmp 17) false 6 (s1.map encEnt) .i64 (k : Int) 56 (by omega) (by simp only [List.length_map]; omega) ?_
   refine Exists.elim (gE s1 k (by omega)) fun e1 he1 => ?_
   refine At.lVp 56 19 (.tmp 18) false 6 (s1.map encEnt) k 0 true 6 (encEnt e1) (.agg [.int .i64 e1.term, .int .i64 e1.cmd.kind, .int .i64 e1.cmd.release, .int .i64 e1.cmd.node, .int .i64 e1.cmd.size, .str e1.cmd.digest]) (mapGet he1) ?_
   refine At.a 2 ?_
   refine At.iSl 32 22 (.tmp 20) (.tmp 21) false 6 (s2.map encEnt) .i64 (k : Int) 56 (by omega) (by simp only [List.length_map]; omega) ?_
   refine Exists.elim (gE s2 k (by omega)) fun e2 he2 => ?_
   refine At.lVp 56 23 (.tmp 22) false 6 (s2.map encEnt) k 0 true 6 (encEnt e2) (.agg [.int .i64 e2.term, .int .i64 e2.cmd.kind, .int .i64 e2.cmd.release, .int .i64 e2.cmd.node, .int .i64 e2.cmd.size, .str e2.cmd.digest]) (mapGet he2) ?_
   refine At.eqA (t := 56) (u := 56) (d := 24) (op := .neq) (x := .tmp 19) (y := .tmp 23) (X := [.int .i64 e1.term, .int .i64 e1.cmd.kind, .int .i64 e1.cmd.release, .int .i64 e1.cmd.node, .int .i64 e1.cmd.size, .str e1.cmd.digest]) (Y := [.int .i64 e2.term, .int .i64 e2.cmd.kind, .int .i64 e2.cmd.release, .int .i64 e2.cmd.node, .int .i64 e2.cmd.size, .str e2.cmd.digest]) (entEq e1 e2) (by kernel_rfl) (by kernel_rfl) (by kernel_rfl) (by kernel_rfl) (by kernel_rfl) (.bool (!(entEq e1 e2))) (.inr ⟨rfl, rfl⟩) ?_
   refine At.done rfl ⟨by kernel_rfl, ?_⟩
   refine AW.cNB (entEq e1 e2) (fun h3 => ?_) (fun h3 => ?_)
   · refine AW.q 1 ?_
     refine AW.ret ?_
     refine ⟨_, Sub.refl _ _, ?_⟩
     refine KF.conv (fun w => .bool w) (fun w => []) (show (false) = (listEq entEq s1 s2) from by rw [hR, dropCons he1, dropCons he2, listEq]; simp [*]) ?_
     exact KF.n []
   refine AW.skip ?_
   refine AW.g ?_
   refine At.a 1 ?_
   refine At.sI 25 ((k : Int) + 1) (by omega) ?_
   refine At.z 1 ?_
   exact ⟨k + 1, ⟨by omega, by rw [hR, dropCons he1, dropCons he2, listEq]; simp [*]⟩, (by omega), Sub.o [] [true, true, false, false, false, false, false, false, false, false, false, false, true, true]⟩
 refine AW.exit ?_
 refine AW.q 1 ?_
 refine AW.ret ?_
 refine ⟨_, Sub.refl _ _, ?_⟩
 refine KF.conv (fun w => .bool w) (fun w => []) (show (true) = (listEq entEq s1 s2) from by rw [hR, List.drop_of_length_le (by omega), List.drop_of_length_le (by omega)]; rfl) ?_
 exact KF.n []
def K_impl_MsgSame (rs : List ResultVar) (a : Msg) (b : Msg) (w0_ : Bool) : Exit → Sg → Prop := KF Try.prog 0 rs (.bool w0_) []
theorem impl_MsgSame_spec  (a : Msg) (b : Msg) (ha : a.entries.length ≤ 1048576) (hb : b.entries.length ≤ 1048576) : FnSpec Try.prog 23 [(msgA a), (msgA b)] [] (.bool (msgEq a b)) [] := by
 refine FnSpec.of 91 Try.func23 rfl Try.ntmps23 (by simp) (AW.weakK ?_)
 refine AW.q 3 ?_
 refine AW.r ?_
 refine At.a 6 ?_
 by_cases h1 : a.kind = b.kind
 · refine At.sB 12 _ _ (sayET h1) ?_
   refine At.a 7 ?_
   by_cases h2 : a.from_ = b.from_
   · refine At.sB 19 _ _ (sayET h2) ?_
     refine At.a 7 ?_
     by_cases h3 : a.term = b.term
     · refine At.sB 26 _ _ (sayET h3) ?_
       refine At.a 7 ?_
       by_cases h4 : a.at_ = b.at_
       · refine At.sB 33 _ _ (sayET h4) ?_
         refine At.a 7 ?_
         by_cases h5 : a.atTerm = b.atTerm
         · refine At.sB 40 _ _ (sayET h5) ?_
           refine At.z 7 ?_
           refine AW.r ?_
           refine At.a 4 ?_
           refine At.eqB (t := 4) (u := 4) (d := 51) (op := .eql) (x := .tmp 48) (y := .tmp 50) (a := a.yes) (b := b.yes) (by kernel_rfl) (by kernel_rfl) (by kernel_rfl) (by kernel_rfl) (by kernel_rfl) (.bool (a.yes == b.yes)) (.inl ⟨rfl, rfl⟩) ?_
           refine At.a 1 ?_
           by_cases h6 : (a.yes == b.yes) = true
           · refine At.sB 52 (a.yes == b.yes) true (sayB h6) ?_
             refine At.a 7 ?_
             by_cases h7 : a.release = b.release
             · refine At.sB 59 _ _ (sayET h7) ?_
               refine At.a 7 ?_
               by_cases h8 : a.part = b.part
               · refine At.sB 66 _ _ (sayET h8) ?_
                 refine At.a 7 ?_
                 by_cases h9 : a.bytes.toList = b.bytes.toList
                 · refine At.sB 73 _ _ (sayET h9) ?_
                   refine At.a 4 ?_
                   refine At.eqA (t := 31) (u := 31) (d := 78) (op := .eql) (x := .tmp 75) (y := .tmp 77) (X := [.int .i64 a.cmd.kind, .int .i64 a.cmd.release, .int .i64 a.cmd.node, .int .i64 a.cmd.size, .str a.cmd.digest]) (Y := [.int .i64 b.cmd.kind, .int .i64 b.cmd.release, .int .i64 b.cmd.node, .int .i64 b.cmd.size, .str b.cmd.digest]) (cmdEq a.cmd b.cmd) (by kernel_rfl) (by kernel_rfl) (by kernel_rfl) (by kernel_rfl) (by kernel_rfl) (.bool (cmdEq a.cmd b.cmd)) (.inl ⟨rfl, rfl⟩) ?_
                   refine At.z 2 ?_
                   refine AW.r ?_
                   refine At.a 2 ?_
                   by_cases h10 : a.commit = b.commit
                   · refine At.sB 81 _ _ (sayET h10) ?_
                     refine At.a 3 ?_
                     by_cases h11 : (cmdEq a.cmd b.cmd) = true
                     · refine At.sB 84 (cmdEq a.cmd b.cmd) true (sayB h11) ?_
                       refine At.a 4 ?_
                       refine At.c (slices_Equal_spec  a.entries b.entries (by omega) (by omega)) Try.call56 true [] [] [] trivial ?_
                       refine At.z 2 ?_
                       exact AW.ret (rf (k1 (K_impl_MsgSame _ a b) (show (listEq entEq a.entries b.entries) = (msgEq a b) from by grind [msgEq]) (KF.n [])))
                     refine At.sB 84 (cmdEq a.cmd b.cmd) false (sayB (Bool.eq_false_iff.2 h11)) ?_
                     replace h11 := Bool.eq_false_iff.2 h11
                     refine At.z 7 ?_
                     exact AW.ret (rf (k1 (K_impl_MsgSame _ a b) (show (false) = (msgEq a b) from by grind [msgEq]) (KF.n [])))
                   refine At.sB 81 _ _ (sayEF h10) ?_
                   refine At.z 10 ?_
                   exact AW.ret (rf (k1 (K_impl_MsgSame _ a b) (show (false) = (msgEq a b) from by grind [msgEq]) (KF.n [])))
                 refine At.sB 73 _ _ (sayEF h9) ?_
                 refine At.z 7 ?_
                 refine AW.r ?_
                 refine At.a 2 ?_
                 by_cases h12 : a.commit = b.commit
                 · refine At.sB 81 _ _ (sayET h12) ?_
                   refine At.z 10 ?_
                   exact AW.ret (rf (k1 (K_impl_MsgSame _ a b) (show (false) = (msgEq a b) from by grind [msgEq]) (KF.n [])))
                 refine At.sB 81 _ _ (sayEF h12) ?_
                 refine At.z 10 ?_
                 exact AW.ret (rf (k1 (K_impl_MsgSame _ a b) (show (false) = (msgEq a b) from by grind [msgEq]) (KF.n [])))
               refine At.sB 66 _ _ (sayEF h8) ?_
               refine At.z 14 ?_
               refine AW.r ?_
               refine At.a 2 ?_
               by_cases h13 : a.commit = b.commit
               · refine At.sB 81 _ _ (sayET h13) ?_
                 refine At.z 10 ?_
                 exact AW.ret (rf (k1 (K_impl_MsgSame _ a b) (show (false) = (msgEq a b) from by grind [msgEq]) (KF.n [])))
               refine At.sB 81 _ _ (sayEF h13) ?_
               refine At.z 10 ?_
               exact AW.ret (rf (k1 (K_impl_MsgSame _ a b) (show (false) = (msgEq a b) from by grind [msgEq]) (KF.n [])))
             refine At.sB 59 _ _ (sayEF h7) ?_
             refine At.z 21 ?_
             refine AW.r ?_
             refine At.a 2 ?_
             by_cases h14 : a.commit = b.commit
             · refine At.sB 81 _ _ (sayET h14) ?_
               refine At.z 10 ?_
               exact AW.ret (rf (k1 (K_impl_MsgSame _ a b) (show (false) = (msgEq a b) from by grind [msgEq]) (KF.n [])))
             refine At.sB 81 _ _ (sayEF h14) ?_
             refine At.z 10 ?_
             exact AW.ret (rf (k1 (K_impl_MsgSame _ a b) (show (false) = (msgEq a b) from by grind [msgEq]) (KF.n [])))
           refine At.sB 52 (a.yes == b.yes) false (sayB (Bool.eq_false_iff.2 h6)) ?_
           replace h6 := Bool.eq_false_iff.2 h6
           refine At.z 28 ?_
           refine AW.r ?_
           refine At.a 2 ?_
           by_cases h15 : a.commit = b.commit
           · refine At.sB 81 _ _ (sayET h15) ?_
             refine At.z 10 ?_
             exact AW.ret (rf (k1 (K_impl_MsgSame _ a b) (show (false) = (msgEq a b) from by grind [msgEq]) (KF.n [])))
           refine At.sB 81 _ _ (sayEF h15) ?_
           refine At.z 10 ?_
           exact AW.ret (rf (k1 (K_impl_MsgSame _ a b) (show (false) = (msgEq a b) from by grind [msgEq]) (KF.n [])))
         refine At.sB 40 _ _ (sayEF h5) ?_
         refine At.z 7 ?_
         refine AW.r ?_
         refine At.a 4 ?_
         refine At.eqB (t := 4) (u := 4) (d := 51) (op := .eql) (x := .tmp 48) (y := .tmp 50) (a := a.yes) (b := b.yes) (by kernel_rfl) (by kernel_rfl) (by kernel_rfl) (by kernel_rfl) (by kernel_rfl) (.bool (a.yes == b.yes)) (.inl ⟨rfl, rfl⟩) ?_
         refine At.a 1 ?_
         by_cases h16 : (a.yes == b.yes) = true
         · refine At.sB 52 (a.yes == b.yes) true (sayB h16) ?_
           refine At.a 7 ?_
           by_cases h17 : a.release = b.release
           · refine At.sB 59 _ _ (sayET h17) ?_
             refine At.a 7 ?_
             by_cases h18 : a.part = b.part
             · refine At.sB 66 _ _ (sayET h18) ?_
               refine At.a 7 ?_
               by_cases h19 : a.bytes.toList = b.bytes.toList
               · refine At.sB 73 _ _ (sayET h19) ?_
                 refine At.a 4 ?_
                 refine At.eqA (t := 31) (u := 31) (d := 78) (op := .eql) (x := .tmp 75) (y := .tmp 77) (X := [.int .i64 a.cmd.kind, .int .i64 a.cmd.release, .int .i64 a.cmd.node, .int .i64 a.cmd.size, .str a.cmd.digest]) (Y := [.int .i64 b.cmd.kind, .int .i64 b.cmd.release, .int .i64 b.cmd.node, .int .i64 b.cmd.size, .str b.cmd.digest]) (cmdEq a.cmd b.cmd) (by kernel_rfl) (by kernel_rfl) (by kernel_rfl) (by kernel_rfl) (by kernel_rfl) (.bool (cmdEq a.cmd b.cmd)) (.inl ⟨rfl, rfl⟩) ?_
                 refine At.z 2 ?_
                 refine AW.q 12 ?_
                 exact AW.ret (rf (k1 (K_impl_MsgSame _ a b) (show (false) = (msgEq a b) from by grind [msgEq]) (KF.n [])))
               refine At.sB 73 _ _ (sayEF h19) ?_
               refine At.z 7 ?_
               refine AW.q 12 ?_
               exact AW.ret (rf (k1 (K_impl_MsgSame _ a b) (show (false) = (msgEq a b) from by grind [msgEq]) (KF.n [])))
             refine At.sB 66 _ _ (sayEF h18) ?_
             refine At.z 14 ?_
             refine AW.q 12 ?_
             exact AW.ret (rf (k1 (K_impl_MsgSame _ a b) (show (false) = (msgEq a b) from by grind [msgEq]) (KF.n [])))
           refine At.sB 59 _ _ (sayEF h17) ?_
           refine At.z 21 ?_
           refine AW.q 12 ?_
           exact AW.ret (rf (k1 (K_impl_MsgSame _ a b) (show (false) = (msgEq a b) from by grind [msgEq]) (KF.n [])))
         refine At.sB 52 (a.yes == b.yes) false (sayB (Bool.eq_false_iff.2 h16)) ?_
         replace h16 := Bool.eq_false_iff.2 h16
         refine At.z 28 ?_
         refine AW.q 12 ?_
         exact AW.ret (rf (k1 (K_impl_MsgSame _ a b) (show (false) = (msgEq a b) from by grind [msgEq]) (KF.n [])))
       refine At.sB 33 _ _ (sayEF h4) ?_
       refine At.z 14 ?_
       refine AW.r ?_
       refine At.a 4 ?_
       refine At.eqB (t := 4) (u := 4) (d := 51) (op := .eql) (x := .tmp 48) (y := .tmp 50) (a := a.yes) (b := b.yes) (by kernel_rfl) (by kernel_rfl) (by kernel_rfl) (by kernel_rfl) (by kernel_rfl) (.bool (a.yes == b.yes)) (.inl ⟨rfl, rfl⟩) ?_
       refine At.a 1 ?_
       by_cases h20 : (a.yes == b.yes) = true
       · refine At.sB 52 (a.yes == b.yes) true (sayB h20) ?_
         refine At.a 7 ?_
         by_cases h21 : a.release = b.release
         · refine At.sB 59 _ _ (sayET h21) ?_
           refine At.a 7 ?_
           by_cases h22 : a.part = b.part
           · refine At.sB 66 _ _ (sayET h22) ?_
             refine At.a 7 ?_
             by_cases h23 : a.bytes.toList = b.bytes.toList
             · refine At.sB 73 _ _ (sayET h23) ?_
               refine At.a 4 ?_
               refine At.eqA (t := 31) (u := 31) (d := 78) (op := .eql) (x := .tmp 75) (y := .tmp 77) (X := [.int .i64 a.cmd.kind, .int .i64 a.cmd.release, .int .i64 a.cmd.node, .int .i64 a.cmd.size, .str a.cmd.digest]) (Y := [.int .i64 b.cmd.kind, .int .i64 b.cmd.release, .int .i64 b.cmd.node, .int .i64 b.cmd.size, .str b.cmd.digest]) (cmdEq a.cmd b.cmd) (by kernel_rfl) (by kernel_rfl) (by kernel_rfl) (by kernel_rfl) (by kernel_rfl) (.bool (cmdEq a.cmd b.cmd)) (.inl ⟨rfl, rfl⟩) ?_
               refine At.z 2 ?_
               refine AW.q 12 ?_
               exact AW.ret (rf (k1 (K_impl_MsgSame _ a b) (show (false) = (msgEq a b) from by grind [msgEq]) (KF.n [])))
             refine At.sB 73 _ _ (sayEF h23) ?_
             refine At.z 7 ?_
             refine AW.q 12 ?_
             exact AW.ret (rf (k1 (K_impl_MsgSame _ a b) (show (false) = (msgEq a b) from by grind [msgEq]) (KF.n [])))
           refine At.sB 66 _ _ (sayEF h22) ?_
           refine At.z 14 ?_
           refine AW.q 12 ?_
           exact AW.ret (rf (k1 (K_impl_MsgSame _ a b) (show (false) = (msgEq a b) from by grind [msgEq]) (KF.n [])))
         refine At.sB 59 _ _ (sayEF h21) ?_
         refine At.z 21 ?_
         refine AW.q 12 ?_
         exact AW.ret (rf (k1 (K_impl_MsgSame _ a b) (show (false) = (msgEq a b) from by grind [msgEq]) (KF.n [])))
       refine At.sB 52 (a.yes == b.yes) false (sayB (Bool.eq_false_iff.2 h20)) ?_
       replace h20 := Bool.eq_false_iff.2 h20
       refine At.z 28 ?_
       refine AW.q 12 ?_
       exact AW.ret (rf (k1 (K_impl_MsgSame _ a b) (show (false) = (msgEq a b) from by grind [msgEq]) (KF.n [])))
     refine At.sB 26 _ _ (sayEF h3) ?_
     refine At.z 21 ?_
     refine AW.r ?_
     refine At.a 4 ?_
     refine At.eqB (t := 4) (u := 4) (d := 51) (op := .eql) (x := .tmp 48) (y := .tmp 50) (a := a.yes) (b := b.yes) (by kernel_rfl) (by kernel_rfl) (by kernel_rfl) (by kernel_rfl) (by kernel_rfl) (.bool (a.yes == b.yes)) (.inl ⟨rfl, rfl⟩) ?_
     refine At.a 1 ?_
     by_cases h24 : (a.yes == b.yes) = true
     · refine At.sB 52 (a.yes == b.yes) true (sayB h24) ?_
       refine At.a 7 ?_
       by_cases h25 : a.release = b.release
       · refine At.sB 59 _ _ (sayET h25) ?_
         refine At.a 7 ?_
         by_cases h26 : a.part = b.part
         · refine At.sB 66 _ _ (sayET h26) ?_
           refine At.a 7 ?_
           by_cases h27 : a.bytes.toList = b.bytes.toList
           · refine At.sB 73 _ _ (sayET h27) ?_
             refine At.a 4 ?_
             refine At.eqA (t := 31) (u := 31) (d := 78) (op := .eql) (x := .tmp 75) (y := .tmp 77) (X := [.int .i64 a.cmd.kind, .int .i64 a.cmd.release, .int .i64 a.cmd.node, .int .i64 a.cmd.size, .str a.cmd.digest]) (Y := [.int .i64 b.cmd.kind, .int .i64 b.cmd.release, .int .i64 b.cmd.node, .int .i64 b.cmd.size, .str b.cmd.digest]) (cmdEq a.cmd b.cmd) (by kernel_rfl) (by kernel_rfl) (by kernel_rfl) (by kernel_rfl) (by kernel_rfl) (.bool (cmdEq a.cmd b.cmd)) (.inl ⟨rfl, rfl⟩) ?_
             refine At.z 2 ?_
             refine AW.q 12 ?_
             exact AW.ret (rf (k1 (K_impl_MsgSame _ a b) (show (false) = (msgEq a b) from by grind [msgEq]) (KF.n [])))
           refine At.sB 73 _ _ (sayEF h27) ?_
           refine At.z 7 ?_
           refine AW.q 12 ?_
           exact AW.ret (rf (k1 (K_impl_MsgSame _ a b) (show (false) = (msgEq a b) from by grind [msgEq]) (KF.n [])))
         refine At.sB 66 _ _ (sayEF h26) ?_
         refine At.z 14 ?_
         refine AW.q 12 ?_
         exact AW.ret (rf (k1 (K_impl_MsgSame _ a b) (show (false) = (msgEq a b) from by grind [msgEq]) (KF.n [])))
       refine At.sB 59 _ _ (sayEF h25) ?_
       refine At.z 21 ?_
       refine AW.q 12 ?_
       exact AW.ret (rf (k1 (K_impl_MsgSame _ a b) (show (false) = (msgEq a b) from by grind [msgEq]) (KF.n [])))
     refine At.sB 52 (a.yes == b.yes) false (sayB (Bool.eq_false_iff.2 h24)) ?_
     replace h24 := Bool.eq_false_iff.2 h24
     refine At.z 28 ?_
     refine AW.q 12 ?_
     exact AW.ret (rf (k1 (K_impl_MsgSame _ a b) (show (false) = (msgEq a b) from by grind [msgEq]) (KF.n [])))
   refine At.sB 19 _ _ (sayEF h2) ?_
   refine At.z 28 ?_
   refine AW.r ?_
   refine At.a 4 ?_
   refine At.eqB (t := 4) (u := 4) (d := 51) (op := .eql) (x := .tmp 48) (y := .tmp 50) (a := a.yes) (b := b.yes) (by kernel_rfl) (by kernel_rfl) (by kernel_rfl) (by kernel_rfl) (by kernel_rfl) (.bool (a.yes == b.yes)) (.inl ⟨rfl, rfl⟩) ?_
   refine At.a 1 ?_
   by_cases h28 : (a.yes == b.yes) = true
   · refine At.sB 52 (a.yes == b.yes) true (sayB h28) ?_
     refine At.a 7 ?_
     by_cases h29 : a.release = b.release
     · refine At.sB 59 _ _ (sayET h29) ?_
       refine At.a 7 ?_
       by_cases h30 : a.part = b.part
       · refine At.sB 66 _ _ (sayET h30) ?_
         refine At.a 7 ?_
         by_cases h31 : a.bytes.toList = b.bytes.toList
         · refine At.sB 73 _ _ (sayET h31) ?_
           refine At.a 4 ?_
           refine At.eqA (t := 31) (u := 31) (d := 78) (op := .eql) (x := .tmp 75) (y := .tmp 77) (X := [.int .i64 a.cmd.kind, .int .i64 a.cmd.release, .int .i64 a.cmd.node, .int .i64 a.cmd.size, .str a.cmd.digest]) (Y := [.int .i64 b.cmd.kind, .int .i64 b.cmd.release, .int .i64 b.cmd.node, .int .i64 b.cmd.size, .str b.cmd.digest]) (cmdEq a.cmd b.cmd) (by kernel_rfl) (by kernel_rfl) (by kernel_rfl) (by kernel_rfl) (by kernel_rfl) (.bool (cmdEq a.cmd b.cmd)) (.inl ⟨rfl, rfl⟩) ?_
           refine At.z 2 ?_
           refine AW.q 12 ?_
           exact AW.ret (rf (k1 (K_impl_MsgSame _ a b) (show (false) = (msgEq a b) from by grind [msgEq]) (KF.n [])))
         refine At.sB 73 _ _ (sayEF h31) ?_
         refine At.z 7 ?_
         refine AW.q 12 ?_
         exact AW.ret (rf (k1 (K_impl_MsgSame _ a b) (show (false) = (msgEq a b) from by grind [msgEq]) (KF.n [])))
       refine At.sB 66 _ _ (sayEF h30) ?_
       refine At.z 14 ?_
       refine AW.q 12 ?_
       exact AW.ret (rf (k1 (K_impl_MsgSame _ a b) (show (false) = (msgEq a b) from by grind [msgEq]) (KF.n [])))
     refine At.sB 59 _ _ (sayEF h29) ?_
     refine At.z 21 ?_
     refine AW.q 12 ?_
     exact AW.ret (rf (k1 (K_impl_MsgSame _ a b) (show (false) = (msgEq a b) from by grind [msgEq]) (KF.n [])))
   refine At.sB 52 (a.yes == b.yes) false (sayB (Bool.eq_false_iff.2 h28)) ?_
   replace h28 := Bool.eq_false_iff.2 h28
   refine At.z 28 ?_
   refine AW.q 12 ?_
   exact AW.ret (rf (k1 (K_impl_MsgSame _ a b) (show (false) = (msgEq a b) from by grind [msgEq]) (KF.n [])))
 refine At.sB 12 _ _ (sayEF h1) ?_
 refine At.z 35 ?_
 refine AW.r ?_
 refine At.a 4 ?_
 refine At.eqB (t := 4) (u := 4) (d := 51) (op := .eql) (x := .tmp 48) (y := .tmp 50) (a := a.yes) (b := b.yes) (by kernel_rfl) (by kernel_rfl) (by kernel_rfl) (by kernel_rfl) (by kernel_rfl) (.bool (a.yes == b.yes)) (.inl ⟨rfl, rfl⟩) ?_
 refine At.a 1 ?_
 by_cases h32 : (a.yes == b.yes) = true
 · refine At.sB 52 (a.yes == b.yes) true (sayB h32) ?_
   refine At.a 7 ?_
   by_cases h33 : a.release = b.release
   · refine At.sB 59 _ _ (sayET h33) ?_
     refine At.a 7 ?_
     by_cases h34 : a.part = b.part
     · refine At.sB 66 _ _ (sayET h34) ?_
       refine At.a 7 ?_
       by_cases h35 : a.bytes.toList = b.bytes.toList
       · refine At.sB 73 _ _ (sayET h35) ?_
         refine At.a 4 ?_
         refine At.eqA (t := 31) (u := 31) (d := 78) (op := .eql) (x := .tmp 75) (y := .tmp 77) (X := [.int .i64 a.cmd.kind, .int .i64 a.cmd.release, .int .i64 a.cmd.node, .int .i64 a.cmd.size, .str a.cmd.digest]) (Y := [.int .i64 b.cmd.kind, .int .i64 b.cmd.release, .int .i64 b.cmd.node, .int .i64 b.cmd.size, .str b.cmd.digest]) (cmdEq a.cmd b.cmd) (by kernel_rfl) (by kernel_rfl) (by kernel_rfl) (by kernel_rfl) (by kernel_rfl) (.bool (cmdEq a.cmd b.cmd)) (.inl ⟨rfl, rfl⟩) ?_
         refine At.z 2 ?_
         refine AW.q 12 ?_
         exact AW.ret (rf (k1 (K_impl_MsgSame _ a b) (show (false) = (msgEq a b) from by grind [msgEq]) (KF.n [])))
       refine At.sB 73 _ _ (sayEF h35) ?_
       refine At.z 7 ?_
       refine AW.q 12 ?_
       exact AW.ret (rf (k1 (K_impl_MsgSame _ a b) (show (false) = (msgEq a b) from by grind [msgEq]) (KF.n [])))
     refine At.sB 66 _ _ (sayEF h34) ?_
     refine At.z 14 ?_
     refine AW.q 12 ?_
     exact AW.ret (rf (k1 (K_impl_MsgSame _ a b) (show (false) = (msgEq a b) from by grind [msgEq]) (KF.n [])))
   refine At.sB 59 _ _ (sayEF h33) ?_
   refine At.z 21 ?_
   refine AW.q 12 ?_
   exact AW.ret (rf (k1 (K_impl_MsgSame _ a b) (show (false) = (msgEq a b) from by grind [msgEq]) (KF.n [])))
 refine At.sB 52 (a.yes == b.yes) false (sayB (Bool.eq_false_iff.2 h32)) ?_
 replace h32 := Bool.eq_false_iff.2 h32
 refine At.z 28 ?_
 refine AW.q 12 ?_
 exact AW.ret (rf (k1 (K_impl_MsgSame _ a b) (show (false) = (msgEq a b) from by grind [msgEq]) (KF.n [])))
theorem impl_MsgFits_spec  (m : Msg) (hl : m.entries.length ≤ 1048576) : FnSpec Try.prog 35 [(msgA m)] [] (.bool (msgFits m)) [] := by
 have hfs := fieldsL_small m.kind
 refine FnSpec.of 30 Try.func35 rfl Try.ntmps35 (by simp) (AW.weakK ?_)
 refine AW.q 2 ?_
 refine AW.r ?_
 refine At.a 2 ?_
 refine At.c (impl_fieldsOf_spec  m.kind ) Try.call37 true [] [] [] trivial ?_
 refine At.z 1 ?_
 refine AW.q 3 ?_
 refine AW.seq ?_
 refine AW.q 3 ?_
 refine AW.block ?_
 refine AW.loopW (fun (x : Nat × Msg) => match x with | (k, q) => Go.Sy.mk [.un, .ptr 101 0 0, .un, .str (fieldsL m.kind), .ptr 104 0 0, .un, .un, .un, .un, .un, .un, .int .i64 ((fieldsL m.kind).size : Int), .int .i64 (k : Int)] [(101, .box 34 [.int .i64 m.kind, .int .i64 m.from_, .int .i64 m.term, .int .i64 m.at_, .int .i64 m.atTerm, .int .i64 m.commit, .bool m.yes, .int .i64 m.release, .int .i64 m.part, .str m.bytes, .int .i64 m.cmd.kind, .int .i64 m.cmd.release, .int .i64 m.cmd.node, .int .i64 m.cmd.size, .str m.cmd.digest, .sl false 6 (m.entries.map encEnt)]), (104, .box 34 [.int .i64 q.kind, .int .i64 q.from_, .int .i64 q.term, .int .i64 q.at_, .int .i64 q.atTerm, .int .i64 q.commit, .bool q.yes, .int .i64 q.release, .int .i64 q.part, .str q.bytes, .int .i64 q.cmd.kind, .int .i64 q.cmd.release, .int .i64 q.cmd.node, .int .i64 q.cmd.size, .str q.cmd.digest, .sl false 6 (q.entries.map encEnt)])]) (fun (x : Nat × Msg) => match x with | (k, q) => k ≤ (fieldsL m.kind).size ∧ q.entries.length ≤ 1048576 ∧ runTake m.kind (fieldsL m.kind).data.toList m = runTake m.kind ((fieldsL m.kind).data.toList.drop k) q) (fun (x : Nat × Msg) => match x with | (k, q) => (fieldsL m.kind).size - k) (0, m) ⟨by omega, hl, by rw [List.drop_zero]⟩ (Sub.o [(101, 101), (104, 104)] [false, true, false, true, true, false, false, false, false, false, false, true, true]) ?_
 rintro ⟨k, q⟩ ⟨hk, hq, hR⟩
 refine AW.q 1 ?_
 refine AW.seq ?_
 refine AW.cD ((k : Int) < ((fieldsL m.kind).size : Int)) (fun h1 => ?_) (fun h1 => ?_)
 · refine AW.skip ?_
   refine AW.seq ?_
   refine AW.block ?_
   refine AW.q 2 ?_
   refine AW.r ?_
   refine At.a 2 ?_
   refine Exists.elim (show ∃ e, (fieldsL m.kind).data[k]? = some e from ⟨_, Array.getElem?_eq_getElem (by show _ < (fieldsL m.kind).size; omega)⟩) fun e1 he1 => ?_
   have hl1 : (fieldsL m.kind).data.toList[k]? = some e1 := by simpa using he1
   refine At.idxStr (t := 9) (d := 17) (x := .tmp 15) (y := .tmp 16) (s := fieldsL m.kind) (kd := .i64) (i := (k : Int)) e1 (by kernel_rfl) (by kernel_rfl) (by kernel_rfl) (by kernel_rfl) (by omega) he1 ?_
   refine At.c (impl_Msg_take_spec  q e1 (by omega)) Try.call66 true [(104, 0)] [] [] trivial ?_
   refine At.z 1 ?_
   refine AW.cNB (takeOk q e1.toNat) (fun h2 => ?_) (fun h2 => ?_)
   · refine AW.q 1 ?_
     refine AW.ret ?_
     refine ⟨_, Sub.refl _ _, ?_⟩
     refine KF.conv (fun w => .bool w) (fun w => []) (show (false) = (msgFits m) from by rw [fits_run, hR, dropCons hl1, runTake]; simp [h1, h2]) ?_
     exact KF.n []
   refine AW.skip ?_
   refine AW.g ?_
   refine At.a 1 ?_
   refine At.sI 20 ((k : Int) + 1) (by omega) ?_
   refine At.z 1 ?_
   exact ⟨(k + 1, (takeM q e1.toNat)), ⟨by omega, takeM_small hq _, by rw [hR, dropCons hl1, runTake]; simp only [*, Bool.true_and]⟩, (by simp only; omega), Sub.o [(101, 101), (104, 104)] [false, true, false, true, true, false, false, false, false, false, false, true, true]⟩
 refine AW.exit ?_
 refine AW.r ?_
 refine At.a 3 ?_
 by_cases h3 : (fieldsL m.kind).toList = (⟨#[]⟩ : ByteArray).toList
 · refine At.sB 23 (!((fieldsL m.kind).toList == (⟨#[]⟩ : ByteArray).toList)) false (sayNF (sayET h3)) ?_
   refine At.z 7 ?_
   refine AW.ret ?_
   refine ⟨_, Sub.refl _ _, ?_⟩
   refine KF.conv (fun w => .bool w) (fun w => []) (show (false) = (msgFits m) from by rw [fits_run, show ((fieldsL m.kind).toList == []) = true from beq_iff_eq.2 (by rw [← noBytes]; assumption)]; rfl) ?_
   exact KF.n []
 refine At.sB 23 (!((fieldsL m.kind).toList == (⟨#[]⟩ : ByteArray).toList)) true (sayNT (sayEF h3)) ?_
 refine At.a 4 ?_
 refine At.c (FnSpec.nz (As := [.agg [.int .i64 q.kind, .int .i64 q.from_, .int .i64 q.term, .int .i64 q.at_, .int .i64 q.atTerm, .int .i64 q.commit, .bool q.yes, .int .i64 q.release, .int .i64 q.part, .str q.bytes, .int .i64 q.cmd.kind, .int .i64 q.cmd.release, .int .i64 q.cmd.node, .int .i64 q.cmd.size, .str q.cmd.digest, .sl false 6 (q.entries.map encEnt)], .agg [.int .i64 m.kind, .int .i64 0, .int .i64 0, .int .i64 0, .int .i64 0, .int .i64 0, .bool false, .int .i64 0, .int .i64 0, .str (⟨#[]⟩ : ByteArray), .int .i64 0, .int .i64 0, .int .i64 0, .int .i64 0, .str (⟨#[]⟩ : ByteArray), .nil]]) 6 (impl_MsgSame_spec  q (⟨m.kind, 0, 0, 0, 0, 0, false, 0, 0, (⟨#[]⟩ : ByteArray), ⟨0, 0, 0, 0, (⟨#[]⟩ : ByteArray)⟩, []⟩ : Msg) (by omega) (by simp only [List.length_map, List.length_append, List.length_take, List.length_drop, List.length_replicate, List.length_set, List.length_cons, List.length_nil]; omega))) Try.call23 true [] [] [] trivial ?_
 refine At.z 2 ?_
 refine AW.ret ?_
 refine ⟨_, Sub.refl _ _, ?_⟩
 refine KF.conv (fun w => .bool w) (fun w => []) (show (msgEq q (⟨m.kind, 0, 0, 0, 0, 0, false, 0, 0, (⟨#[]⟩ : ByteArray), ⟨0, 0, 0, 0, (⟨#[]⟩ : ByteArray)⟩, []⟩ : Msg)) = (msgFits m) from by rw [fits_run, hR, List.drop_of_length_le (by rw [Array.length_toList]; show (fieldsL m.kind).size ≤ _; omega), runTake, beq_eq_false_iff_ne.2 (by rw [← noBytes]; assumption)]; rfl) ?_
 exact KF.n []
def K_impl_MsgRead (rs : List ResultVar) (b : List UInt8) (w0_ : Msg) (w1_ : Int) : Exit → Sg → Prop := KF Try.prog 0 rs (.tup [.agg [.int .i64 w0_.kind, .int .i64 w0_.from_, .int .i64 w0_.term, .int .i64 w0_.at_, .int .i64 w0_.atTerm, .int .i64 w0_.commit, .bool w0_.yes, .int .i64 w0_.release, .int .i64 w0_.part, .str w0_.bytes, .int .i64 w0_.cmd.kind, .int .i64 w0_.cmd.release, .int .i64 w0_.cmd.node, .int .i64 w0_.cmd.size, .str w0_.cmd.digest, .ref 0], .int .i64 w1_]) [.arr 56 6 (w0_.entries.map encEnt)]
theorem impl_MsgRead_spec  (b : List UInt8) (hb : b.length ≤ 1048576) : FnSpec Try.prog 17 [.sl false 1 (b.map encU8)] [] (.tup [.agg [.int .i64 (((msgR b).1).kind), .int .i64 (((msgR b).1).from_), .int .i64 (((msgR b).1).term), .int .i64 (((msgR b).1).at_), .int .i64 (((msgR b).1).atTerm), .int .i64 (((msgR b).1).commit), .bool (((msgR b).1).yes), .int .i64 (((msgR b).1).release), .int .i64 (((msgR b).1).part), .str (((msgR b).1).bytes), .int .i64 (((msgR b).1).cmd.kind), .int .i64 (((msgR b).1).cmd.release), .int .i64 (((msgR b).1).cmd.node), .int .i64 (((msgR b).1).cmd.size), .str (((msgR b).1).cmd.digest), .ref 0], .int .i64 ((msgR b).2)]) [.arr 56 6 ((((msgR b).1).entries).map encEnt)] := by
 have hul := unsealB_len b 0
 have hq0 : RdOk ⟨(unsealB b 0).1, 0, false⟩ := ⟨by dsimp only; omega, by dsimp only; omega, by dsimp only; omega⟩
 have hf6 := fieldsL_six (rdNum ⟨(unsealB b 0).1, 0, false⟩).2
 refine FnSpec.of 73 Try.func17 rfl Try.ntmps17 (by simp) (AW.weakK ?_)
 refine AW.q 2 ?_
 refine AW.seq ?_
 refine AW.weak (Sub.nils [⟨true, 102, some 15, 5001, 56, 6⟩] (by kernel_rfl)) ?_
 refine AW.g ?_
 refine At.a 1 ?_
 refine At.c (impl_Unseal_spec  b 0 hb (by omega)) Try.call45 true [] [(1260, 0)] [] trivial ?_
 refine At.z 7 ?_
 refine AW.seq ?_
 refine AW.seq ?_
 refine AW.weak (Sub.frz 1260 5 1 (((unsealB b 0).1).map encU8) (by kernel_rfl) flatU8) ?_
 refine AW.g ?_
 refine At.a 3 ?_
 by_cases h1 : (unsealB b 0).2.2 = 0
 · refine At.sB 19 _ _ (sayUF h1) ?_
   refine At.a 3 ?_
   refine At.sL 22 encU8 b ?_
   refine At.z 2 ?_
   refine AW.cU ((unsealB b 0).2.1) (b.length : Int) (fun h2 => ?_) (fun h2 => ?_)
   · refine AW.q 3 ?_
     refine AW.ret ?_
     refine ⟨_, Sub.nils [⟨true, 102, some 15, 5002, 56, 6⟩] (by kernel_rfl), ?_⟩
     exact k2 (K_impl_MsgRead _ b) (show ((⟨0, 0, 0, 0, 0, 0, false, 0, 0, (⟨#[]⟩ : ByteArray), ⟨0, 0, 0, 0, (⟨#[]⟩ : ByteArray)⟩, []⟩ : Msg)) = ((msgR b).1) from (by rw [← msgRI_eq]; first | (rw [msgRI_1 (by exact Or.inr (by first | assumption | (rw [← noBytes]; assumption)))]; first | done | rfl) | (rw [msgRI_2 (by assumption) (by assumption) (by first | exact Or.inl (by assumption) | exact Or.inr (by first | assumption | (rw [← noBytes]; assumption)))]; first | done | rfl) | (have hE := hR.trans (show rdFields ((fieldsL (rdNum ⟨(unsealB b 0).1, 0, false⟩).2).data.toList.drop k) r q = (r, q) from by rw [List.drop_of_length_le (by rw [Array.length_toList]; show (fieldsL (rdNum ⟨(unsealB b 0).1, 0, false⟩).2).size ≤ _; omega), rdFields]) ; first | (rw [msgRI_3 (by assumption) (by assumption) (by assumption) (by rw [← noBytes]; assumption) hE (by assumption)]; first | done | rfl) | (rw [msgRI_4 (by assumption) (by assumption) (by assumption) (by rw [← noBytes]; assumption) hE (by assumption) (by assumption)]; first | done | rfl) | (rw [msgRI_5 (by assumption) (by assumption) (by assumption) (by rw [← noBytes]; assumption) hE (by assumption) (by assumption) (by assumption)]; first | done | rfl) | (rw [msgRI_0 (by assumption) (by assumption) (by assumption) (by rw [← noBytes]; assumption) hE (by assumption) (by assumption) (by assumption)]; first | done | rfl)))) (show (1) = ((msgR b).2) from (by rw [← msgRI_eq]; first | (rw [msgRI_1 (by exact Or.inr (by first | assumption | (rw [← noBytes]; assumption)))]; first | done | rfl) | (rw [msgRI_2 (by assumption) (by assumption) (by first | exact Or.inl (by assumption) | exact Or.inr (by first | assumption | (rw [← noBytes]; assumption)))]; first | done | rfl) | (have hE := hR.trans (show rdFields ((fieldsL (rdNum ⟨(unsealB b 0).1, 0, false⟩).2).data.toList.drop k) r q = (r, q) from by rw [List.drop_of_length_le (by rw [Array.length_toList]; show (fieldsL (rdNum ⟨(unsealB b 0).1, 0, false⟩).2).size ≤ _; omega), rdFields]) ; first | (rw [msgRI_3 (by assumption) (by assumption) (by assumption) (by rw [← noBytes]; assumption) hE (by assumption)]; first | done | rfl) | (rw [msgRI_4 (by assumption) (by assumption) (by assumption) (by rw [← noBytes]; assumption) hE (by assumption) (by assumption)]; first | done | rfl) | (rw [msgRI_5 (by assumption) (by assumption) (by assumption) (by rw [← noBytes]; assumption) hE (by assumption) (by assumption) (by assumption)]; first | done | rfl) | (rw [msgRI_0 (by assumption) (by assumption) (by assumption) (by rw [← noBytes]; assumption) hE (by assumption) (by assumption) (by assumption)]; first | done | rfl)))) (KF.n [(5002, 0)])
   refine AW.skip ?_
   refine AW.q 4 ?_
   refine AW.seq ?_
   refine AW.weak (Sub.tsl 128 0 70 1 (((unsealB b 0).1).map encU8) [.sl true 1 (((unsealB b 0).1).map encU8), .int .i64 0, .bool false] (by kernel_rfl)) ?_
   refine AW.gq 3 ?_
   refine AW.seq ?_
   refine AW.weak (Sub.nils [⟨true, 108, some 15, 5003, 56, 6⟩] (by kernel_rfl)) ?_
   refine AW.g ?_
   refine At.a 1 ?_
   refine At.c (impl_reader_num_spec  (⟨(unsealB b 0).1, 0, false⟩ : Rd) (by exact hq0)) Try.call46 true [(128, 0)] [] [] trivial ?_
   refine At.z 2 ?_
   refine AW.r ?_
   refine At.a 2 ?_
   refine At.c (impl_fieldsOf_spec  ((rdNum (⟨(unsealB b 0).1, 0, false⟩ : Rd)).2) ) Try.call37 true [] [] [] trivial ?_
   refine At.z 1 ?_
   refine AW.seq ?_
   refine AW.r ?_
   refine At.a 5 ?_
   by_cases h3 : (((rdNum (⟨(unsealB b 0).1, 0, false⟩ : Rd)).1).bad) = true
   · refine At.sB 40 (((rdNum (⟨(unsealB b 0).1, 0, false⟩ : Rd)).1).bad) true (sayB h3) ?_
     refine At.z 3 ?_
     refine AW.cond true (by kernel_rfl) (fun _ => ?_) (fun h => by cases h)
     refine AW.q 3 ?_
     refine AW.ret ?_
     refine ⟨_, Sub.nils [⟨true, 102, some 15, 5004, 56, 6⟩] (by kernel_rfl), ?_⟩
     exact k2 (K_impl_MsgRead _ b) (show ((⟨0, 0, 0, 0, 0, 0, false, 0, 0, (⟨#[]⟩ : ByteArray), ⟨0, 0, 0, 0, (⟨#[]⟩ : ByteArray)⟩, []⟩ : Msg)) = ((msgR b).1) from (by rw [← msgRI_eq]; first | (rw [msgRI_1 (by first | exact Or.inl (by assumption) | exact Or.inr (by first | assumption | (rw [← noBytes]; assumption)))]; first | done | rfl) | (rw [msgRI_2 (by assumption) (by assumption) (by exact Or.inl (by assumption))]; first | done | rfl) | (have hE := hR.trans (show rdFields ((fieldsL (rdNum ⟨(unsealB b 0).1, 0, false⟩).2).data.toList.drop k) r q = (r, q) from by rw [List.drop_of_length_le (by rw [Array.length_toList]; show (fieldsL (rdNum ⟨(unsealB b 0).1, 0, false⟩).2).size ≤ _; omega), rdFields]) ; first | (rw [msgRI_3 (by assumption) (by assumption) (by assumption) (by rw [← noBytes]; assumption) hE (by assumption)]; first | done | rfl) | (rw [msgRI_4 (by assumption) (by assumption) (by assumption) (by rw [← noBytes]; assumption) hE (by assumption) (by assumption)]; first | done | rfl) | (rw [msgRI_5 (by assumption) (by assumption) (by assumption) (by rw [← noBytes]; assumption) hE (by assumption) (by assumption) (by assumption)]; first | done | rfl) | (rw [msgRI_0 (by assumption) (by assumption) (by assumption) (by rw [← noBytes]; assumption) hE (by assumption) (by assumption) (by assumption)]; first | done | rfl)))) (show (2) = ((msgR b).2) from (by rw [← msgRI_eq]; first | (rw [msgRI_1 (by first | exact Or.inl (by assumption) | exact Or.inr (by first | assumption | (rw [← noBytes]; assumption)))]; first | done | rfl) | (rw [msgRI_2 (by assumption) (by assumption) (by exact Or.inl (by assumption))]; first | done | rfl) | (have hE := hR.trans (show rdFields ((fieldsL (rdNum ⟨(unsealB b 0).1, 0, false⟩).2).data.toList.drop k) r q = (r, q) from by rw [List.drop_of_length_le (by rw [Array.length_toList]; show (fieldsL (rdNum ⟨(unsealB b 0).1, 0, false⟩).2).size ≤ _; omega), rdFields]) ; first | (rw [msgRI_3 (by assumption) (by assumption) (by assumption) (by rw [← noBytes]; assumption) hE (by assumption)]; first | done | rfl) | (rw [msgRI_4 (by assumption) (by assumption) (by assumption) (by rw [← noBytes]; assumption) hE (by assumption) (by assumption)]; first | done | rfl) | (rw [msgRI_5 (by assumption) (by assumption) (by assumption) (by rw [← noBytes]; assumption) hE (by assumption) (by assumption) (by assumption)]; first | done | rfl) | (rw [msgRI_0 (by assumption) (by assumption) (by assumption) (by rw [← noBytes]; assumption) hE (by assumption) (by assumption) (by assumption)]; first | done | rfl)))) (KF.n [(5004, 0)])
   refine At.sB 40 (((rdNum (⟨(unsealB b 0).1, 0, false⟩ : Rd)).1).bad) false (sayB (Bool.eq_false_iff.2 h3)) ?_
   replace h3 := Bool.eq_false_iff.2 h3
   refine At.z 3 ?_
   refine AW.cE ((fieldsL ((rdNum (⟨(unsealB b 0).1, 0, false⟩ : Rd)).2)).toList) ((⟨#[]⟩ : ByteArray).toList) (fun h4 => ?_) (fun h4 => ?_)
   · refine AW.q 3 ?_
     refine AW.ret ?_
     refine ⟨_, Sub.nils [⟨true, 102, some 15, 5005, 56, 6⟩] (by kernel_rfl), ?_⟩
     exact k2 (K_impl_MsgRead _ b) (show ((⟨0, 0, 0, 0, 0, 0, false, 0, 0, (⟨#[]⟩ : ByteArray), ⟨0, 0, 0, 0, (⟨#[]⟩ : ByteArray)⟩, []⟩ : Msg)) = ((msgR b).1) from (by rw [← msgRI_eq]; first | (rw [msgRI_1 (by first | exact Or.inl (by assumption) | exact Or.inr (by first | assumption | (rw [← noBytes]; assumption)))]; first | done | rfl) | (rw [msgRI_2 (by assumption) (by assumption) (by exact Or.inr (by first | assumption | (rw [← noBytes]; assumption)))]; first | done | rfl) | (have hE := hR.trans (show rdFields ((fieldsL (rdNum ⟨(unsealB b 0).1, 0, false⟩).2).data.toList.drop k) r q = (r, q) from by rw [List.drop_of_length_le (by rw [Array.length_toList]; show (fieldsL (rdNum ⟨(unsealB b 0).1, 0, false⟩).2).size ≤ _; omega), rdFields]) ; first | (rw [msgRI_3 (by assumption) (by assumption) (by assumption) (by rw [← noBytes]; assumption) hE (by assumption)]; first | done | rfl) | (rw [msgRI_4 (by assumption) (by assumption) (by assumption) (by rw [← noBytes]; assumption) hE (by assumption) (by assumption)]; first | done | rfl) | (rw [msgRI_5 (by assumption) (by assumption) (by assumption) (by rw [← noBytes]; assumption) hE (by assumption) (by assumption) (by assumption)]; first | done | rfl) | (rw [msgRI_0 (by assumption) (by assumption) (by assumption) (by rw [← noBytes]; assumption) hE (by assumption) (by assumption) (by assumption)]; first | done | rfl)))) (show (2) = ((msgR b).2) from (by rw [← msgRI_eq]; first | (rw [msgRI_1 (by first | exact Or.inl (by assumption) | exact Or.inr (by first | assumption | (rw [← noBytes]; assumption)))]; first | done | rfl) | (rw [msgRI_2 (by assumption) (by assumption) (by exact Or.inr (by first | assumption | (rw [← noBytes]; assumption)))]; first | done | rfl) | (have hE := hR.trans (show rdFields ((fieldsL (rdNum ⟨(unsealB b 0).1, 0, false⟩).2).data.toList.drop k) r q = (r, q) from by rw [List.drop_of_length_le (by rw [Array.length_toList]; show (fieldsL (rdNum ⟨(unsealB b 0).1, 0, false⟩).2).size ≤ _; omega), rdFields]) ; first | (rw [msgRI_3 (by assumption) (by assumption) (by assumption) (by rw [← noBytes]; assumption) hE (by assumption)]; first | done | rfl) | (rw [msgRI_4 (by assumption) (by assumption) (by assumption) (by rw [← noBytes]; assumption) hE (by assumption) (by assumption)]; first | done | rfl) | (rw [msgRI_5 (by assumption) (by assumption) (by assumption) (by rw [← noBytes]; assumption) hE (by assumption) (by assumption) (by assumption)]; first | done | rfl) | (rw [msgRI_0 (by assumption) (by assumption) (by assumption) (by rw [← noBytes]; assumption) hE (by assumption) (by assumption) (by assumption)]; first | done | rfl)))) (KF.n [(5005, 0)])
   refine AW.skip ?_
   refine AW.seq ?_
   refine AW.q 3 ?_
   refine AW.block ?_
   refine AW.loopW (fun (x : Nat × Rd × Msg) => match x with | (k, r, q) => Go.Sy.mk [.un, .un, .ptr 102 0 0, .un, .un, .un, .un, .ptr 128 0 0, .ptr 108 0 0, .str (fieldsL ((rdNum (⟨(unsealB b 0).1, 0, false⟩ : Rd)).2)), .un, .un, .un, .un, .un, .un, .un, .un, .un, .un, .un, .un, .un, .un, .un, .un, .un, .un, .un, .un, .un, .un, .un, .un, .un, .un, .un, .un, .un, .un, .un, .un, .un, .un, .un, .un, .int .i64 ((fieldsL ((rdNum (⟨(unsealB b 0).1, 0, false⟩ : Rd)).2)).size : Int), .int .i64 (k : Int)] [(102, .box 34 [.int .i64 0, .int .i64 0, .int .i64 0, .int .i64 0, .int .i64 0, .int .i64 0, .bool false, .int .i64 0, .int .i64 0, .str (⟨#[]⟩ : ByteArray), .int .i64 0, .int .i64 0, .int .i64 0, .int .i64 0, .str (⟨#[]⟩ : ByteArray), .ref 5001]), (108, .box 34 [.int .i64 q.kind, .int .i64 q.from_, .int .i64 q.term, .int .i64 q.at_, .int .i64 q.atTerm, .int .i64 q.commit, .bool q.yes, .int .i64 q.release, .int .i64 q.part, .str q.bytes, .int .i64 q.cmd.kind, .int .i64 q.cmd.release, .int .i64 q.cmd.node, .int .i64 q.cmd.size, .str q.cmd.digest, .ref 5003]), (128, .box 70 [.sl false 1 (r.b.map encU8), .int .i64 r.at_, .bool r.bad]), (5001, .arr 56 6 []), (5003, .arr 56 6 (q.entries.map encEnt))]) (fun (x : Nat × Rd × Msg) => match x with | (k, r, q) => k ≤ (fieldsL (rdNum ⟨(unsealB b 0).1, 0, false⟩).2).size ∧ RdOk r ∧ q.entries.length ≤ 7 ∧ rdFields (fieldsL (rdNum ⟨(unsealB b 0).1, 0, false⟩).2).data.toList (rdNum ⟨(unsealB b 0).1, 0, false⟩).1 (kMsg (rdNum ⟨(unsealB b 0).1, 0, false⟩).2) = rdFields ((fieldsL (rdNum ⟨(unsealB b 0).1, 0, false⟩).2).data.toList.drop k) r q) (fun (x : Nat × Rd × Msg) => match x with | (k, r, q) => (fieldsL (rdNum ⟨(unsealB b 0).1, 0, false⟩).2).size - k) (0, ((rdNum (⟨(unsealB b 0).1, 0, false⟩ : Rd)).1), (⟨(rdNum (⟨(unsealB b 0).1, 0, false⟩ : Rd)).2, 0, 0, 0, 0, 0, false, 0, 0, (⟨#[]⟩ : ByteArray), ⟨0, 0, 0, 0, (⟨#[]⟩ : ByteArray)⟩, []⟩ : Msg)) ⟨by omega, rdNum_ok hq0, by simp, by rw [List.drop_zero]; rfl⟩ (Sub.o [(102, 102), (108, 108), (128, 128), (5001, 5001), (5003, 5003)] [false, false, true, false, false, false, false, true, true, true, false, false, false, false, false, false, false, false, false, false, false, false, false, false, false, false, false, false, false, false, false, false, false, false, false, false, false, false, false, false, false, false, false, false, false, false, true, true]) ?_
   rintro ⟨k, r, q⟩ ⟨hk, hr, hq, hR⟩
   refine AW.q 1 ?_
   refine AW.seq ?_
   refine AW.cD ((k : Int) < ((fieldsL ((rdNum (⟨(unsealB b 0).1, 0, false⟩ : Rd)).2)).size : Int)) (fun h5 => ?_) (fun h5 => ?_)
   · refine AW.skip ?_
     refine AW.seq ?_
     refine AW.block ?_
     refine AW.q 2 ?_
     refine AW.g ?_
     refine At.a 3 ?_
     refine Exists.elim (show ∃ e, (fieldsL ((rdNum (⟨(unsealB b 0).1, 0, false⟩ : Rd)).2)).data[k]? = some e from ⟨_, Array.getElem?_eq_getElem (by show _ < (fieldsL ((rdNum (⟨(unsealB b 0).1, 0, false⟩ : Rd)).2)).size; omega)⟩) fun e1 he1 => ?_
     have hl1 : (fieldsL (rdNum ⟨(unsealB b 0).1, 0, false⟩).2).data.toList[k]? = some e1 := by simpa using he1
     refine At.idxStr (t := 9) (d := 53) (x := .tmp 51) (y := .tmp 52) (s := fieldsL ((rdNum (⟨(unsealB b 0).1, 0, false⟩ : Rd)).2)) (kd := .i64) (i := (k : Int)) e1 (by kernel_rfl) (by kernel_rfl) (by kernel_rfl) (by kernel_rfl) (by omega) he1 ?_
     refine At.c (impl_reader_field_spec  r q e1 (by exact hr)) Try.call47 true [(128, 0), (108, 1), (5003, 2)] [(2080, 3)] [] trivial ?_
     refine At.done rfl ?_
     refine AW.g ?_
     refine At.a 1 ?_
     refine At.sI 55 ((k : Int) + 1) (by omega) ?_
     refine At.z 1 ?_
     exact ⟨(k + 1, ((rdField r q e1.toNat).1), ((rdField r q e1.toNat).2)), ⟨by omega, rdField_ok q _ hr, rdField_ents q _ hr hq, by rw [hR, dropCons hl1, rdFields]⟩, (by simp only; omega), Sub.o [(102, 102), (108, 108), (128, 128), (5001, 5001), (2080, 5003)] [false, false, true, false, false, false, false, true, true, true, false, false, false, false, false, false, false, false, false, false, false, false, false, false, false, false, false, false, false, false, false, false, false, false, false, false, false, false, false, false, false, false, false, false, false, false, true, true]⟩
   refine AW.exit ?_
   refine AW.seq ?_
   refine AW.block ?_
   refine AW.q 5 ?_
   refine AW.cB (r.bad) (fun h6 => ?_) (fun h6 => ?_)
   · refine AW.q 3 ?_
     refine AW.ret ?_
     refine ⟨_, Sub.nils [⟨true, 102, some 15, 5006, 56, 6⟩] (by kernel_rfl), ?_⟩
     exact k2 (K_impl_MsgRead _ b) (show ((⟨0, 0, 0, 0, 0, 0, false, 0, 0, (⟨#[]⟩ : ByteArray), ⟨0, 0, 0, 0, (⟨#[]⟩ : ByteArray)⟩, []⟩ : Msg)) = ((msgR b).1) from (by rw [← msgRI_eq]; first | (rw [msgRI_1 (by first | exact Or.inl (by assumption) | exact Or.inr (by first | assumption | (rw [← noBytes]; assumption)))]; first | done | rfl) | (rw [msgRI_2 (by assumption) (by assumption) (by first | exact Or.inl (by assumption) | exact Or.inr (by first | assumption | (rw [← noBytes]; assumption)))]; first | done | rfl) | (have hE := hR.trans (show rdFields ((fieldsL (rdNum ⟨(unsealB b 0).1, 0, false⟩).2).data.toList.drop k) r q = (r, q) from by rw [List.drop_of_length_le (by rw [Array.length_toList]; show (fieldsL (rdNum ⟨(unsealB b 0).1, 0, false⟩).2).size ≤ _; omega), rdFields]) ; first | (rw [msgRI_3 (by assumption) (by assumption) (by assumption) (by rw [← noBytes]; assumption) hE (by assumption)]; first | done | rfl) | (rw [msgRI_4 (by assumption) (by assumption) (by assumption) (by rw [← noBytes]; assumption) hE (by assumption) (by assumption)]; first | done | rfl) | (rw [msgRI_5 (by assumption) (by assumption) (by assumption) (by rw [← noBytes]; assumption) hE (by assumption) (by assumption) (by assumption)]; first | done | rfl) | (rw [msgRI_0 (by assumption) (by assumption) (by assumption) (by rw [← noBytes]; assumption) hE (by assumption) (by assumption) (by assumption)]; first | done | rfl)))) (show (3) = ((msgR b).2) from (by rw [← msgRI_eq]; first | (rw [msgRI_1 (by first | exact Or.inl (by assumption) | exact Or.inr (by first | assumption | (rw [← noBytes]; assumption)))]; first | done | rfl) | (rw [msgRI_2 (by assumption) (by assumption) (by first | exact Or.inl (by assumption) | exact Or.inr (by first | assumption | (rw [← noBytes]; assumption)))]; first | done | rfl) | (have hE := hR.trans (show rdFields ((fieldsL (rdNum ⟨(unsealB b 0).1, 0, false⟩).2).data.toList.drop k) r q = (r, q) from by rw [List.drop_of_length_le (by rw [Array.length_toList]; show (fieldsL (rdNum ⟨(unsealB b 0).1, 0, false⟩).2).size ≤ _; omega), rdFields]) ; first | (rw [msgRI_3 (by assumption) (by assumption) (by assumption) (by rw [← noBytes]; assumption) hE (by assumption)]; first | done | rfl) | (rw [msgRI_4 (by assumption) (by assumption) (by assumption) (by rw [← noBytes]; assumption) hE (by assumption) (by assumption)]; first | done | rfl) | (rw [msgRI_5 (by assumption) (by assumption) (by assumption) (by rw [← noBytes]; assumption) hE (by assumption) (by assumption) (by assumption)]; first | done | rfl) | (rw [msgRI_0 (by assumption) (by assumption) (by assumption) (by rw [← noBytes]; assumption) hE (by assumption) (by assumption) (by assumption)]; first | done | rfl)))) (KF.n [(5006, 0)])
   refine AW.r ?_
   refine At.a 1 ?_
   refine At.c (impl_reader_done_spec  r (by exact hr)) Try.call48 true [(128, 0)] [] [] trivial ?_
   refine At.z 2 ?_
   refine AW.cNB (!r.bad && (r.at_ == (r.b.length : Int))) (fun h7 => ?_) (fun h7 => ?_)
   · refine AW.q 3 ?_
     refine AW.ret ?_
     refine ⟨_, Sub.nils [⟨true, 102, some 15, 5007, 56, 6⟩] (by kernel_rfl), ?_⟩
     exact k2 (K_impl_MsgRead _ b) (show ((⟨0, 0, 0, 0, 0, 0, false, 0, 0, (⟨#[]⟩ : ByteArray), ⟨0, 0, 0, 0, (⟨#[]⟩ : ByteArray)⟩, []⟩ : Msg)) = ((msgR b).1) from (by rw [← msgRI_eq]; first | (rw [msgRI_1 (by first | exact Or.inl (by assumption) | exact Or.inr (by first | assumption | (rw [← noBytes]; assumption)))]; first | done | rfl) | (rw [msgRI_2 (by assumption) (by assumption) (by first | exact Or.inl (by assumption) | exact Or.inr (by first | assumption | (rw [← noBytes]; assumption)))]; first | done | rfl) | (have hE := hR.trans (show rdFields ((fieldsL (rdNum ⟨(unsealB b 0).1, 0, false⟩).2).data.toList.drop k) r q = (r, q) from by rw [List.drop_of_length_le (by rw [Array.length_toList]; show (fieldsL (rdNum ⟨(unsealB b 0).1, 0, false⟩).2).size ≤ _; omega), rdFields]) ; first | (rw [msgRI_3 (by assumption) (by assumption) (by assumption) (by rw [← noBytes]; assumption) hE (by assumption)]; first | done | rfl) | (rw [msgRI_4 (by assumption) (by assumption) (by assumption) (by rw [← noBytes]; assumption) hE (by assumption) (by assumption)]; first | done | rfl) | (rw [msgRI_5 (by assumption) (by assumption) (by assumption) (by rw [← noBytes]; assumption) hE (by assumption) (by assumption) (by assumption)]; first | done | rfl) | (rw [msgRI_0 (by assumption) (by assumption) (by assumption) (by rw [← noBytes]; assumption) hE (by assumption) (by assumption) (by assumption)]; first | done | rfl)))) (show (4) = ((msgR b).2) from (by rw [← msgRI_eq]; first | (rw [msgRI_1 (by first | exact Or.inl (by assumption) | exact Or.inr (by first | assumption | (rw [← noBytes]; assumption)))]; first | done | rfl) | (rw [msgRI_2 (by assumption) (by assumption) (by first | exact Or.inl (by assumption) | exact Or.inr (by first | assumption | (rw [← noBytes]; assumption)))]; first | done | rfl) | (have hE := hR.trans (show rdFields ((fieldsL (rdNum ⟨(unsealB b 0).1, 0, false⟩).2).data.toList.drop k) r q = (r, q) from by rw [List.drop_of_length_le (by rw [Array.length_toList]; show (fieldsL (rdNum ⟨(unsealB b 0).1, 0, false⟩).2).size ≤ _; omega), rdFields]) ; first | (rw [msgRI_3 (by assumption) (by assumption) (by assumption) (by rw [← noBytes]; assumption) hE (by assumption)]; first | done | rfl) | (rw [msgRI_4 (by assumption) (by assumption) (by assumption) (by rw [← noBytes]; assumption) hE (by assumption) (by assumption)]; first | done | rfl) | (rw [msgRI_5 (by assumption) (by assumption) (by assumption) (by rw [← noBytes]; assumption) hE (by assumption) (by assumption) (by assumption)]; first | done | rfl) | (rw [msgRI_0 (by assumption) (by assumption) (by assumption) (by rw [← noBytes]; assumption) hE (by assumption) (by assumption) (by assumption)]; first | done | rfl)))) (KF.n [(5007, 0)])
   refine AW.r ?_
   refine At.a 1 ?_
   refine At.c (impl_MsgFits_spec  q (by omega)) Try.call35 false [] [] [(5003, 6, (q.entries.map encEnt))] ⟨rfl, ⟨56, (q.entries.map encEnt), by kernel_rfl, FrzIs.same (allP_encEnt _)⟩, trivial⟩ ?_
   refine At.z 2 ?_
   refine AW.cNB (msgFits q) (fun h8 => ?_) (fun h8 => ?_)
   · refine AW.q 3 ?_
     refine AW.ret ?_
     refine ⟨_, Sub.nils [⟨true, 102, some 15, 5008, 56, 6⟩] (by kernel_rfl), ?_⟩
     exact k2 (K_impl_MsgRead _ b) (show ((⟨0, 0, 0, 0, 0, 0, false, 0, 0, (⟨#[]⟩ : ByteArray), ⟨0, 0, 0, 0, (⟨#[]⟩ : ByteArray)⟩, []⟩ : Msg)) = ((msgR b).1) from (by rw [← msgRI_eq]; first | (rw [msgRI_1 (by first | exact Or.inl (by assumption) | exact Or.inr (by first | assumption | (rw [← noBytes]; assumption)))]; first | done | rfl) | (rw [msgRI_2 (by assumption) (by assumption) (by first | exact Or.inl (by assumption) | exact Or.inr (by first | assumption | (rw [← noBytes]; assumption)))]; first | done | rfl) | (have hE := hR.trans (show rdFields ((fieldsL (rdNum ⟨(unsealB b 0).1, 0, false⟩).2).data.toList.drop k) r q = (r, q) from by rw [List.drop_of_length_le (by rw [Array.length_toList]; show (fieldsL (rdNum ⟨(unsealB b 0).1, 0, false⟩).2).size ≤ _; omega), rdFields]) ; first | (rw [msgRI_3 (by assumption) (by assumption) (by assumption) (by rw [← noBytes]; assumption) hE (by assumption)]; first | done | rfl) | (rw [msgRI_4 (by assumption) (by assumption) (by assumption) (by rw [← noBytes]; assumption) hE (by assumption) (by assumption)]; first | done | rfl) | (rw [msgRI_5 (by assumption) (by assumption) (by assumption) (by rw [← noBytes]; assumption) hE (by assumption) (by assumption) (by assumption)]; first | done | rfl) | (rw [msgRI_0 (by assumption) (by assumption) (by assumption) (by rw [← noBytes]; assumption) hE (by assumption) (by assumption) (by assumption)]; first | done | rfl)))) (show (5) = ((msgR b).2) from (by rw [← msgRI_eq]; first | (rw [msgRI_1 (by first | exact Or.inl (by assumption) | exact Or.inr (by first | assumption | (rw [← noBytes]; assumption)))]; first | done | rfl) | (rw [msgRI_2 (by assumption) (by assumption) (by first | exact Or.inl (by assumption) | exact Or.inr (by first | assumption | (rw [← noBytes]; assumption)))]; first | done | rfl) | (have hE := hR.trans (show rdFields ((fieldsL (rdNum ⟨(unsealB b 0).1, 0, false⟩).2).data.toList.drop k) r q = (r, q) from by rw [List.drop_of_length_le (by rw [Array.length_toList]; show (fieldsL (rdNum ⟨(unsealB b 0).1, 0, false⟩).2).size ≤ _; omega), rdFields]) ; first | (rw [msgRI_3 (by assumption) (by assumption) (by assumption) (by rw [← noBytes]; assumption) hE (by assumption)]; first | done | rfl) | (rw [msgRI_4 (by assumption) (by assumption) (by assumption) (by rw [← noBytes]; assumption) hE (by assumption) (by assumption)]; first | done | rfl) | (rw [msgRI_5 (by assumption) (by assumption) (by assumption) (by rw [← noBytes]; assumption) hE (by assumption) (by assumption) (by assumption)]; first | done | rfl) | (rw [msgRI_0 (by assumption) (by assumption) (by assumption) (by rw [← noBytes]; assumption) hE (by assumption) (by assumption) (by assumption)]; first | done | rfl)))) (KF.n [(5008, 0)])
   refine AW.skip ?_
   refine AW.q 3 ?_
   exact AW.ret (rf (k2 (K_impl_MsgRead _ b) (show (q) = ((msgR b).1) from (by rw [← msgRI_eq]; first | (rw [msgRI_1 (by first | exact Or.inl (by assumption) | exact Or.inr (by first | assumption | (rw [← noBytes]; assumption)))]; first | done | rfl) | (rw [msgRI_2 (by assumption) (by assumption) (by first | exact Or.inl (by assumption) | exact Or.inr (by first | assumption | (rw [← noBytes]; assumption)))]; first | done | rfl) | (have hE := hR.trans (show rdFields ((fieldsL (rdNum ⟨(unsealB b 0).1, 0, false⟩).2).data.toList.drop k) r q = (r, q) from by rw [List.drop_of_length_le (by rw [Array.length_toList]; show (fieldsL (rdNum ⟨(unsealB b 0).1, 0, false⟩).2).size ≤ _; omega), rdFields]) ; first | (rw [msgRI_3 (by assumption) (by assumption) (by assumption) (by rw [← noBytes]; assumption) hE (by assumption)]; first | done | rfl) | (rw [msgRI_4 (by assumption) (by assumption) (by assumption) (by rw [← noBytes]; assumption) hE (by assumption) (by assumption)]; first | done | rfl) | (rw [msgRI_5 (by assumption) (by assumption) (by assumption) (by rw [← noBytes]; assumption) hE (by assumption) (by assumption) (by assumption)]; first | done | rfl) | (rw [msgRI_0 (by assumption) (by assumption) (by assumption) (by rw [← noBytes]; assumption) hE (by assumption) (by assumption) (by assumption)]; first | done | rfl)))) (show (0) = ((msgR b).2) from (by rw [← msgRI_eq]; first | (rw [msgRI_1 (by first | exact Or.inl (by assumption) | exact Or.inr (by first | assumption | (rw [← noBytes]; assumption)))]; first | done | rfl) | (rw [msgRI_2 (by assumption) (by assumption) (by first | exact Or.inl (by assumption) | exact Or.inr (by first | assumption | (rw [← noBytes]; assumption)))]; first | done | rfl) | (have hE := hR.trans (show rdFields ((fieldsL (rdNum ⟨(unsealB b 0).1, 0, false⟩).2).data.toList.drop k) r q = (r, q) from by rw [List.drop_of_length_le (by rw [Array.length_toList]; show (fieldsL (rdNum ⟨(unsealB b 0).1, 0, false⟩).2).size ≤ _; omega), rdFields]) ; first | (rw [msgRI_3 (by assumption) (by assumption) (by assumption) (by rw [← noBytes]; assumption) hE (by assumption)]; first | done | rfl) | (rw [msgRI_4 (by assumption) (by assumption) (by assumption) (by rw [← noBytes]; assumption) hE (by assumption) (by assumption)]; first | done | rfl) | (rw [msgRI_5 (by assumption) (by assumption) (by assumption) (by rw [← noBytes]; assumption) hE (by assumption) (by assumption) (by assumption)]; first | done | rfl) | (rw [msgRI_0 (by assumption) (by assumption) (by assumption) (by rw [← noBytes]; assumption) hE (by assumption) (by assumption) (by assumption)]; first | done | rfl)))) (KF.n [(5003, 0)])))
 refine At.sB 19 _ _ (sayUT h1) ?_
 refine At.z 5 ?_
 refine AW.cond true (by kernel_rfl) (fun _ => ?_) (fun h => by cases h)
 refine AW.q 3 ?_
 refine AW.ret ?_
 refine ⟨_, Sub.nils [⟨true, 102, some 15, 5009, 56, 6⟩] (by kernel_rfl), ?_⟩
 exact k2 (K_impl_MsgRead _ b) (show ((⟨0, 0, 0, 0, 0, 0, false, 0, 0, (⟨#[]⟩ : ByteArray), ⟨0, 0, 0, 0, (⟨#[]⟩ : ByteArray)⟩, []⟩ : Msg)) = ((msgR b).1) from (by rw [← msgRI_eq]; first | (rw [msgRI_1 (by exact Or.inl (by assumption))]; first | done | rfl) | (rw [msgRI_2 (by assumption) (by assumption) (by first | exact Or.inl (by assumption) | exact Or.inr (by first | assumption | (rw [← noBytes]; assumption)))]; first | done | rfl) | (have hE := hR.trans (show rdFields ((fieldsL (rdNum ⟨(unsealB b 0).1, 0, false⟩).2).data.toList.drop k) r q = (r, q) from by rw [List.drop_of_length_le (by rw [Array.length_toList]; show (fieldsL (rdNum ⟨(unsealB b 0).1, 0, false⟩).2).size ≤ _; omega), rdFields]) ; first | (rw [msgRI_3 (by assumption) (by assumption) (by assumption) (by rw [← noBytes]; assumption) hE (by assumption)]; first | done | rfl) | (rw [msgRI_4 (by assumption) (by assumption) (by assumption) (by rw [← noBytes]; assumption) hE (by assumption) (by assumption)]; first | done | rfl) | (rw [msgRI_5 (by assumption) (by assumption) (by assumption) (by rw [← noBytes]; assumption) hE (by assumption) (by assumption) (by assumption)]; first | done | rfl) | (rw [msgRI_0 (by assumption) (by assumption) (by assumption) (by rw [← noBytes]; assumption) hE (by assumption) (by assumption) (by assumption)]; first | done | rfl)))) (show (1) = ((msgR b).2) from (by rw [← msgRI_eq]; first | (rw [msgRI_1 (by exact Or.inl (by assumption))]; first | done | rfl) | (rw [msgRI_2 (by assumption) (by assumption) (by first | exact Or.inl (by assumption) | exact Or.inr (by first | assumption | (rw [← noBytes]; assumption)))]; first | done | rfl) | (have hE := hR.trans (show rdFields ((fieldsL (rdNum ⟨(unsealB b 0).1, 0, false⟩).2).data.toList.drop k) r q = (r, q) from by rw [List.drop_of_length_le (by rw [Array.length_toList]; show (fieldsL (rdNum ⟨(unsealB b 0).1, 0, false⟩).2).size ≤ _; omega), rdFields]) ; first | (rw [msgRI_3 (by assumption) (by assumption) (by assumption) (by rw [← noBytes]; assumption) hE (by assumption)]; first | done | rfl) | (rw [msgRI_4 (by assumption) (by assumption) (by assumption) (by rw [← noBytes]; assumption) hE (by assumption) (by assumption)]; first | done | rfl) | (rw [msgRI_5 (by assumption) (by assumption) (by assumption) (by rw [← noBytes]; assumption) hE (by assumption) (by assumption) (by assumption)]; first | done | rfl) | (rw [msgRI_0 (by assumption) (by assumption) (by assumption) (by rw [← noBytes]; assumption) hE (by assumption) (by assumption) (by assumption)]; first | done | rfl)))) (KF.n [(5009, 0)])
theorem laws_eqCmd_spec  (a : Cmd) (b : Cmd) : FnSpec Try.prog 40 [.agg [.int .i64 a.kind, .int .i64 a.release, .int .i64 a.node, .int .i64 a.size, .str a.digest], .agg [.int .i64 b.kind, .int .i64 b.release, .int .i64 b.node, .int .i64 b.size, .str b.digest]] [] (.bool (cmdEq a b)) [] := by
 refine FnSpec.of 30 Try.func40 rfl Try.ntmps40 (by simp) (AW.weakK ?_)
 refine AW.q 3 ?_
 refine AW.seq ?_
 refine AW.q 5 ?_
 refine AW.cU a.kind b.kind (fun h1 => ?_) (fun h1 => ?_)
 · refine AW.q 1 ?_
   refine AW.ret ?_
   refine ⟨_, Sub.refl _ _, ?_⟩
   refine KF.conv (fun w => .bool w) (fun w => []) (show (false) = (cmdEq a b) from by simp [cmdEq, *]) ?_
   exact KF.n []
 refine AW.skip ?_
 refine AW.seq ?_
 refine AW.q 5 ?_
 refine AW.cU a.release b.release (fun h2 => ?_) (fun h2 => ?_)
 · refine AW.q 1 ?_
   refine AW.ret ?_
   refine ⟨_, Sub.refl _ _, ?_⟩
   refine KF.conv (fun w => .bool w) (fun w => []) (show (false) = (cmdEq a b) from by simp [cmdEq, *]) ?_
   exact KF.n []
 refine AW.skip ?_
 refine AW.seq ?_
 refine AW.q 5 ?_
 refine AW.cU a.node b.node (fun h3 => ?_) (fun h3 => ?_)
 · refine AW.q 1 ?_
   refine AW.ret ?_
   refine ⟨_, Sub.refl _ _, ?_⟩
   refine KF.conv (fun w => .bool w) (fun w => []) (show (false) = (cmdEq a b) from by simp [cmdEq, *]) ?_
   exact KF.n []
 refine AW.skip ?_
 refine AW.seq ?_
 refine AW.q 5 ?_
 refine AW.cU a.size b.size (fun h4 => ?_) (fun h4 => ?_)
 · refine AW.q 1 ?_
   refine AW.ret ?_
   refine ⟨_, Sub.refl _ _, ?_⟩
   refine KF.conv (fun w => .bool w) (fun w => []) (show (false) = (cmdEq a b) from by simp [cmdEq, *]) ?_
   exact KF.n []
 refine AW.skip ?_
 refine AW.seq ?_
 refine AW.q 5 ?_
 refine AW.cNE (a.digest.toList) (b.digest.toList) (fun h5 => ?_) (fun h5 => ?_)
 · refine AW.q 1 ?_
   refine AW.ret ?_
   refine ⟨_, Sub.refl _ _, ?_⟩
   refine KF.conv (fun w => .bool w) (fun w => []) (show (false) = (cmdEq a b) from by simp [cmdEq, *]) ?_
   exact KF.n []
 refine AW.skip ?_
 refine AW.q 1 ?_
 refine AW.ret ?_
 refine ⟨_, Sub.refl _ _, ?_⟩
 refine KF.conv (fun w => .bool w) (fun w => []) (show (true) = (cmdEq a b) from by simp [cmdEq, *]) ?_
 exact KF.n []
end Go.Proofs.Ythjmbojkpkbedaa
