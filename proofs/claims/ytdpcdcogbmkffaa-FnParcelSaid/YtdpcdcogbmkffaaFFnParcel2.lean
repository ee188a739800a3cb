/- The contracts of the functions that FnParcel reaches (each: what it answers, said over values), printed by a program of this session (wip/sy/g/gen.py). -/
import Derived.Test.YtdpcdcogbmkffaaFFnParcel1
set_option linter.unusedVariables false
set_option linter.unusedSimpArgs false
set_option maxRecDepth 100000
set_option maxHeartbeats 4000000
namespace Go.Proofs.Ytdpcdcogbmkffaa
open Go Go.Sy Go.Proofs
theorem spec_SourcePrint_spec  (s : Srce) (hs : SmS 1000 1000 1000 s) : ∃ rho_ : ByteArray × Bool, (rho_.1.size ≤ 1000) ∧ FnSpec Try.prog 31 [.agg [.sl false 9 (s.rules.map encRul), .sl false 3 (s.zones.map encZon), .sl false 2 (s.links.map encLnk)]] [] (.tup [.str rho_.1, .bool rho_.2]) [] := by
 obtain ⟨hS1, hS2, hS3, hS4, hS5⟩ := id hs
 have hb0 : (⟨#[45]⟩ : ByteArray).size = 1 := rfl
 have hb1 : (⟨#[32]⟩ : ByteArray).size = 1 := rfl
 have hb2 : (⟨#[10]⟩ : ByteArray).size = 1 := rfl
 have hb3 : (⟨#[108, 97, 115, 116]⟩ : ByteArray).size = 4 := rfl
 have hb4 : (⟨#[62, 61]⟩ : ByteArray).size = 2 := rfl
 have hb5 : (⟨#[114, 117, 108, 101, 32]⟩ : ByteArray).size = 5 := rfl
 have hb6 : (⟨#[122, 111, 110, 101, 32]⟩ : ByteArray).size = 5 := rfl
 have hb7 : (⟨#[108, 105, 110, 107, 32]⟩ : ByteArray).size = 5 := rfl
 refine dv (fun h_ => FnSpec.of 122 Try.func31 rfl Try.ntmps31 (by simp) (AW.weakK h_)) ?_
 refine dv (AW.q 3 ·) ?_
 refine dv (AW.seq ·) ?_
 refine dv (AW.r ·) ?_
 refine dv (At.a 1 ·) ?_
 refine Exists.elim (spec_SourceOk_spec  s (by omega)) fun r1_ hr1_ => ?_
 obtain ⟨qr1_, hr1_⟩ := hr1_
 try dsimp only at qr1_
 refine dv (At.c (hr1_) Try.call48 true [] [] [] trivial ·) ?_
 refine dv (At.z 1 ·) ?_
 by_cases h1 : r1_ = true
 · refine dv (AW.condF (!r1_) (by kernel_rfl) (by rw [show (r1_) = true from h1]; rfl) ·) ?_
   refine dv (AW.skip ·) ?_
   refine dv (AW.q 1 ·) ?_
   refine dv (AW.seq ·) ?_
   refine dv (AW.q 1 ·) ?_
   refine dv (AW.block ·) ?_
   refine DW.loopQ (fun (x : Nat × ByteArray) => match x with | (k, o) => Go.Sy.mk [.un, .ptr 101 0 0, .un, .un, .str o, .int .i64 (k : Int)] [(101, .box 60 [.sl false 9 (s.rules.map encRul), .sl false 3 (s.zones.map encZon), .sl false 2 (s.links.map encLnk)])]) (fun (x : Nat × ByteArray) => match x with | (k, o) => k ≤ s.rules.length ∧ o.size ≤ 0 + 2000000 * k) (fun (x : Nat × ByteArray) => match x with | (k, o) => s.rules.length - k) (0, ⟨#[]⟩) ⟨by omega, by decide⟩ (Sub.o [(101, 101)] [false, true, false, false, true, true]) ?_
   rintro ⟨k, o⟩ ⟨hk, ho⟩ ih1
   refine dv (AW.seq ·) ?_
   refine dv (AW.r ·) ?_
   refine dv (At.a 4 ·) ?_
   refine dv (At.sL 16 encRul s.rules ·) ?_
   refine dv (At.z 1 ·) ?_
   by_cases h2 : (k : Int) < (s.rules.length : Int)
   · refine dv (AW.condT (decide ((k : Int) < (s.rules.length : Int))) (by kernel_rfl) (decide_eq_true h2) ·) ?_
     refine dv (AW.skip ·) ?_
     refine dv (AW.seq ·) ?_
     refine dv (AW.block ·) ?_
     refine dv (AW.r ·) ?_
     refine dv (At.a 3 ·) ?_
     refine dv (At.iSl 56 23 (.tmp 21) (.tmp 22) false 9 (s.rules.map encRul) .i64 (k : Int) 88 (by omega) (by simp only [List.length_map]; omega) ·) ?_
     refine Exists.elim (gE s.rules k (by omega)) fun e1 he1 => ?_
     have hme1 := hS4 _ (List.mem_of_getElem? he1)
     obtain ⟨m1, m2, m3, m4, m5, m6, m7⟩ := id hme1
     unfold Sm at m1 m2 m3 m6 m7
     refine dv (At.lVp 88 24 (.tmp 23) false 9 (s.rules.map encRul) k 0 true 9 (encRul e1) (.agg [.int .i64 e1.name, .int .i64 e1.from_, .int .i64 e1.to, .int .i64 e1.month, .int .i64 e1.on.kind, .int .i64 e1.on.day, .int .i64 e1.on.week, .int .i64 e1.at_, .int .i64 e1.save]) (mapGet he1) ·) ?_
     refine dv (At.z 2 ·) ?_
     refine dv (AW.gD Try_mix ·) ?_
     refine dv (At.a 1 ·) ?_
     refine dv (At.cat (t := 9) (u := 9) (d := 26) (x := .tmp 25) (y := .const (.string ⟨#[114, 117, 108, 101, 32]⟩)) (a := o) (b := (⟨#[114, 117, 108, 101, 32]⟩ : ByteArray)) (by kernel_rfl) (by kernel_rfl) (by kernel_rfl) (by kernel_rfl) (by omega) ·) ?_
     refine dv (At.a 2 ·) ?_
     refine Exists.elim (spec_l12Letter_spec  e1.name ) fun r2_ hr2_ => ?_
     obtain ⟨qr2_, hr2_⟩ := hr2_
     try dsimp only at qr2_
     refine dv (At.c (hr2_) Try.call49 true [] [] [] trivial ·) ?_
     refine dv (At.cat (t := 9) (u := 9) (d := 30) (x := .tmp 26) (y := .tmp 29) (a := o ++ (⟨#[114, 117, 108, 101, 32]⟩ : ByteArray)) (b := r2_) (by kernel_rfl) (by kernel_rfl) (by kernel_rfl) (by kernel_rfl) (by simp only [cat_size, strOf_size, List.length_cons, List.length_nil]; omega) ·) ?_
     refine dv (At.cat (t := 9) (u := 9) (d := 31) (x := .tmp 30) (y := .const (.string ⟨#[32]⟩)) (a := (o ++ (⟨#[114, 117, 108, 101, 32]⟩ : ByteArray)) ++ r2_) (b := (⟨#[32]⟩ : ByteArray)) (by kernel_rfl) (by kernel_rfl) (by kernel_rfl) (by kernel_rfl) (by simp only [cat_size, strOf_size, List.length_cons, List.length_nil]; omega) ·) ?_
     refine dv (At.a 2 ·) ?_
     refine Exists.elim (spec_l12Num_spec  e1.from_ (by omega)) fun r3_ hr3_ => ?_
     obtain ⟨qr3_, hr3_⟩ := hr3_
     try dsimp only at qr3_
     refine dv (At.c (hr3_) Try.call50 true [] [] [] trivial ·) ?_
     refine dv (At.cat (t := 9) (u := 9) (d := 35) (x := .tmp 31) (y := .tmp 34) (a := ((o ++ (⟨#[114, 117, 108, 101, 32]⟩ : ByteArray)) ++ r2_) ++ (⟨#[32]⟩ : ByteArray)) (b := r3_) (by kernel_rfl) (by kernel_rfl) (by kernel_rfl) (by kernel_rfl) (by simp only [cat_size, strOf_size, List.length_cons, List.length_nil]; omega) ·) ?_
     refine dv (At.cat (t := 9) (u := 9) (d := 36) (x := .tmp 35) (y := .const (.string ⟨#[32]⟩)) (a := (((o ++ (⟨#[114, 117, 108, 101, 32]⟩ : ByteArray)) ++ r2_) ++ (⟨#[32]⟩ : ByteArray)) ++ r3_) (b := (⟨#[32]⟩ : ByteArray)) (by kernel_rfl) (by kernel_rfl) (by kernel_rfl) (by kernel_rfl) (by simp only [cat_size, strOf_size, List.length_cons, List.length_nil]; omega) ·) ?_
     refine dv (At.a 2 ·) ?_
     refine Exists.elim (spec_l12Num_spec  e1.to (by omega)) fun r4_ hr4_ => ?_
     obtain ⟨qr4_, hr4_⟩ := hr4_
     try dsimp only at qr4_
     refine dv (At.c (hr4_) Try.call50 true [] [] [] trivial ·) ?_
     refine dv (At.cat (t := 9) (u := 9) (d := 40) (x := .tmp 36) (y := .tmp 39) (a := ((((o ++ (⟨#[114, 117, 108, 101, 32]⟩ : ByteArray)) ++ r2_) ++ (⟨#[32]⟩ : ByteArray)) ++ r3_) ++ (⟨#[32]⟩ : ByteArray)) (b := r4_) (by kernel_rfl) (by kernel_rfl) (by kernel_rfl) (by kernel_rfl) (by simp only [cat_size, strOf_size, List.length_cons, List.length_nil]; omega) ·) ?_
     refine dv (At.cat (t := 9) (u := 9) (d := 41) (x := .tmp 40) (y := .const (.string ⟨#[32]⟩)) (a := (((((o ++ (⟨#[114, 117, 108, 101, 32]⟩ : ByteArray)) ++ r2_) ++ (⟨#[32]⟩ : ByteArray)) ++ r3_) ++ (⟨#[32]⟩ : ByteArray)) ++ r4_) (b := (⟨#[32]⟩ : ByteArray)) (by kernel_rfl) (by kernel_rfl) (by kernel_rfl) (by kernel_rfl) (by simp only [cat_size, strOf_size, List.length_cons, List.length_nil]; omega) ·) ?_
     refine dv (At.a 2 ·) ?_
     refine Exists.elim (spec_l12Num_spec  e1.month (by omega)) fun r5_ hr5_ => ?_
     obtain ⟨qr5_, hr5_⟩ := hr5_
     try dsimp only at qr5_
     refine dv (At.c (hr5_) Try.call50 true [] [] [] trivial ·) ?_
     refine dv (At.cat (t := 9) (u := 9) (d := 45) (x := .tmp 41) (y := .tmp 44) (a := ((((((o ++ (⟨#[114, 117, 108, 101, 32]⟩ : ByteArray)) ++ r2_) ++ (⟨#[32]⟩ : ByteArray)) ++ r3_) ++ (⟨#[32]⟩ : ByteArray)) ++ r4_) ++ (⟨#[32]⟩ : ByteArray)) (b := r5_) (by kernel_rfl) (by kernel_rfl) (by kernel_rfl) (by kernel_rfl) (by simp only [cat_size, strOf_size, List.length_cons, List.length_nil]; omega) ·) ?_
     refine dv (At.cat (t := 9) (u := 9) (d := 46) (x := .tmp 45) (y := .const (.string ⟨#[32]⟩)) (a := (((((((o ++ (⟨#[114, 117, 108, 101, 32]⟩ : ByteArray)) ++ r2_) ++ (⟨#[32]⟩ : ByteArray)) ++ r3_) ++ (⟨#[32]⟩ : ByteArray)) ++ r4_) ++ (⟨#[32]⟩ : ByteArray)) ++ r5_) (b := (⟨#[32]⟩ : ByteArray)) (by kernel_rfl) (by kernel_rfl) (by kernel_rfl) (by kernel_rfl) (by simp only [cat_size, strOf_size, List.length_cons, List.length_nil]; omega) ·) ?_
     refine dv (At.a 2 ·) ?_
     refine Exists.elim (spec_OnText_spec  e1.on ⟨by assumption, by assumption⟩) fun r6_ hr6_ => ?_
     obtain ⟨qr6_, hr6_⟩ := hr6_
     try dsimp only at qr6_
     refine dv (At.c (hr6_) Try.call51 true [] [] [] trivial ·) ?_
     refine dv (At.cat (t := 9) (u := 9) (d := 50) (x := .tmp 46) (y := .tmp 49) (a := ((((((((o ++ (⟨#[114, 117, 108, 101, 32]⟩ : ByteArray)) ++ r2_) ++ (⟨#[32]⟩ : ByteArray)) ++ r3_) ++ (⟨#[32]⟩ : ByteArray)) ++ r4_) ++ (⟨#[32]⟩ : ByteArray)) ++ r5_) ++ (⟨#[32]⟩ : ByteArray)) (b := r6_) (by kernel_rfl) (by kernel_rfl) (by kernel_rfl) (by kernel_rfl) (by simp only [cat_size, strOf_size, List.length_cons, List.length_nil]; omega) ·) ?_
     refine dv (At.cat (t := 9) (u := 9) (d := 51) (x := .tmp 50) (y := .const (.string ⟨#[32]⟩)) (a := (((((((((o ++ (⟨#[114, 117, 108, 101, 32]⟩ : ByteArray)) ++ r2_) ++ (⟨#[32]⟩ : ByteArray)) ++ r3_) ++ (⟨#[32]⟩ : ByteArray)) ++ r4_) ++ (⟨#[32]⟩ : ByteArray)) ++ r5_) ++ (⟨#[32]⟩ : ByteArray)) ++ r6_) (b := (⟨#[32]⟩ : ByteArray)) (by kernel_rfl) (by kernel_rfl) (by kernel_rfl) (by kernel_rfl) (by simp only [cat_size, strOf_size, List.length_cons, List.length_nil]; omega) ·) ?_
     refine dv (At.a 2 ·) ?_
     refine Exists.elim (spec_l12Num_spec  e1.at_ (by omega)) fun r7_ hr7_ => ?_
     obtain ⟨qr7_, hr7_⟩ := hr7_
     try dsimp only at qr7_
     refine dv (At.c (hr7_) Try.call50 true [] [] [] trivial ·) ?_
     refine dv (At.cat (t := 9) (u := 9) (d := 55) (x := .tmp 51) (y := .tmp 54) (a := ((((((((((o ++ (⟨#[114, 117, 108, 101, 32]⟩ : ByteArray)) ++ r2_) ++ (⟨#[32]⟩ : ByteArray)) ++ r3_) ++ (⟨#[32]⟩ : ByteArray)) ++ r4_) ++ (⟨#[32]⟩ : ByteArray)) ++ r5_) ++ (⟨#[32]⟩ : ByteArray)) ++ r6_) ++ (⟨#[32]⟩ : ByteArray)) (b := r7_) (by kernel_rfl) (by kernel_rfl) (by kernel_rfl) (by kernel_rfl) (by simp only [cat_size, strOf_size, List.length_cons, List.length_nil]; omega) ·) ?_
     refine dv (At.cat (t := 9) (u := 9) (d := 56) (x := .tmp 55) (y := .const (.string ⟨#[32]⟩)) (a := (((((((((((o ++ (⟨#[114, 117, 108, 101, 32]⟩ : ByteArray)) ++ r2_) ++ (⟨#[32]⟩ : ByteArray)) ++ r3_) ++ (⟨#[32]⟩ : ByteArray)) ++ r4_) ++ (⟨#[32]⟩ : ByteArray)) ++ r5_) ++ (⟨#[32]⟩ : ByteArray)) ++ r6_) ++ (⟨#[32]⟩ : ByteArray)) ++ r7_) (b := (⟨#[32]⟩ : ByteArray)) (by kernel_rfl) (by kernel_rfl) (by kernel_rfl) (by kernel_rfl) (by simp only [cat_size, strOf_size, List.length_cons, List.length_nil]; omega) ·) ?_
     refine dv (At.a 2 ·) ?_
     refine Exists.elim (spec_l12Num_spec  e1.save (by omega)) fun r8_ hr8_ => ?_
     obtain ⟨qr8_, hr8_⟩ := hr8_
     try dsimp only at qr8_
     refine dv (At.c (hr8_) Try.call50 true [] [] [] trivial ·) ?_
     refine dv (At.cat (t := 9) (u := 9) (d := 60) (x := .tmp 56) (y := .tmp 59) (a := ((((((((((((o ++ (⟨#[114, 117, 108, 101, 32]⟩ : ByteArray)) ++ r2_) ++ (⟨#[32]⟩ : ByteArray)) ++ r3_) ++ (⟨#[32]⟩ : ByteArray)) ++ r4_) ++ (⟨#[32]⟩ : ByteArray)) ++ r5_) ++ (⟨#[32]⟩ : ByteArray)) ++ r6_) ++ (⟨#[32]⟩ : ByteArray)) ++ r7_) ++ (⟨#[32]⟩ : ByteArray)) (b := r8_) (by kernel_rfl) (by kernel_rfl) (by kernel_rfl) (by kernel_rfl) (by simp only [cat_size, strOf_size, List.length_cons, List.length_nil]; omega) ·) ?_
     refine dv (At.cat (t := 9) (u := 9) (d := 61) (x := .tmp 60) (y := .const (.string ⟨#[10]⟩)) (a := (((((((((((((o ++ (⟨#[114, 117, 108, 101, 32]⟩ : ByteArray)) ++ r2_) ++ (⟨#[32]⟩ : ByteArray)) ++ r3_) ++ (⟨#[32]⟩ : ByteArray)) ++ r4_) ++ (⟨#[32]⟩ : ByteArray)) ++ r5_) ++ (⟨#[32]⟩ : ByteArray)) ++ r6_) ++ (⟨#[32]⟩ : ByteArray)) ++ r7_) ++ (⟨#[32]⟩ : ByteArray)) ++ r8_) (b := (⟨#[10]⟩ : ByteArray)) (by kernel_rfl) (by kernel_rfl) (by kernel_rfl) (by kernel_rfl) (by simp only [cat_size, strOf_size, List.length_cons, List.length_nil]; omega) ·) ?_
     refine dv (At.zD 1 ·) ?_
     refine dv (AW.g ·) ?_
     refine dv (At.a 2 ·) ?_
     refine dv (At.sI 19 ((k : Int) + 1) (by omega) ·) ?_
     refine dv (At.z 1 ·) ?_
     exact dw (fun _ h_ => AWL.weak (Sub.o [(101, 101)] [false, true, false, false, true, true]) h_) (ih1 (k + 1, (((((((((((((((o ++ (⟨#[114, 117, 108, 101, 32]⟩ : ByteArray)) ++ r2_) ++ (⟨#[32]⟩ : ByteArray)) ++ r3_) ++ (⟨#[32]⟩ : ByteArray)) ++ r4_) ++ (⟨#[32]⟩ : ByteArray)) ++ r5_) ++ (⟨#[32]⟩ : ByteArray)) ++ r6_) ++ (⟨#[32]⟩ : ByteArray)) ++ r7_) ++ (⟨#[32]⟩ : ByteArray)) ++ r8_) ++ (⟨#[10]⟩ : ByteArray))) (⟨by omega, by simp only [cat_size]; omega⟩) (by simp only; omega))
   refine dv (AW.condF (decide ((k : Int) < (s.rules.length : Int))) (by kernel_rfl) (decide_eq_false h2) ·) ?_
   refine dv (AW.exit ·) ?_
   refine dv (AW.seq ·) ?_
   refine dv (AW.q 1 ·) ?_
   refine dv (AW.block ·) ?_
   refine DW.loopQ (fun (x : Nat × ByteArray) => match x with | (k, o) => Go.Sy.mk [.un, .ptr 101 0 0, .un, .un, .str o, .un, .un, .int .i64 (k : Int)] [(101, .box 60 [.sl false 9 (s.rules.map encRul), .sl false 3 (s.zones.map encZon), .sl false 2 (s.links.map encLnk)])]) (fun (x : Nat × ByteArray) => match x with | (k, o) => k ≤ s.zones.length ∧ o.size ≤ 2000000000 + 2000000 * k) (fun (x : Nat × ByteArray) => match x with | (k, o) => s.zones.length - k) (0, o) ⟨by omega, by omega⟩ (Sub.o [(101, 101)] [false, true, false, false, true, false, false, true]) ?_
   rintro ⟨k, o⟩ ⟨hk, ho⟩ ih2
   refine dv (AW.seq ·) ?_
   refine dv (AW.r ·) ?_
   refine dv (At.a 4 ·) ?_
   refine dv (At.sL 65 encZon s.zones ·) ?_
   refine dv (At.z 1 ·) ?_
   by_cases h3 : (k : Int) < (s.zones.length : Int)
   · refine dv (AW.condT (decide ((k : Int) < (s.zones.length : Int))) (by kernel_rfl) (decide_eq_true h3) ·) ?_
     refine dv (AW.skip ·) ?_
     refine dv (AW.seq ·) ?_
     refine dv (AW.block ·) ?_
     refine dv (AW.r ·) ?_
     refine dv (At.a 3 ·) ?_
     refine dv (At.iSl 57 72 (.tmp 70) (.tmp 71) false 3 (s.zones.map encZon) .i64 (k : Int) 92 (by omega) (by simp only [List.length_map]; omega) ·) ?_
     refine Exists.elim (gE s.zones k (by omega)) fun e2 he2 => ?_
     have hme2 := hS5 _ (List.mem_of_getElem? he2)
     unfold Sm at hme2
     refine dv (At.lVp 92 73 (.tmp 72) false 3 (s.zones.map encZon) k 0 true 3 (encZon e2) (.agg [.int .i64 e2.name, .int .i64 e2.off, .int .i64 e2.rule]) (mapGet he2) ·) ?_
     refine dv (At.z 2 ·) ?_
     refine dv (AW.gD Try_mix ·) ?_
     refine dv (At.a 1 ·) ?_
     refine dv (At.cat (t := 9) (u := 9) (d := 75) (x := .tmp 74) (y := .const (.string ⟨#[122, 111, 110, 101, 32]⟩)) (a := o) (b := (⟨#[122, 111, 110, 101, 32]⟩ : ByteArray)) (by kernel_rfl) (by kernel_rfl) (by kernel_rfl) (by kernel_rfl) (by omega) ·) ?_
     refine dv (At.a 2 ·) ?_
     refine Exists.elim (spec_l12Letter_spec  e2.name ) fun r2_ hr2_ => ?_
     obtain ⟨qr2_, hr2_⟩ := hr2_
     try dsimp only at qr2_
     refine dv (At.c (hr2_) Try.call49 true [] [] [] trivial ·) ?_
     refine dv (At.cat (t := 9) (u := 9) (d := 79) (x := .tmp 75) (y := .tmp 78) (a := o ++ (⟨#[122, 111, 110, 101, 32]⟩ : ByteArray)) (b := r2_) (by kernel_rfl) (by kernel_rfl) (by kernel_rfl) (by kernel_rfl) (by simp only [cat_size, strOf_size, List.length_cons, List.length_nil]; omega) ·) ?_
     refine dv (At.cat (t := 9) (u := 9) (d := 80) (x := .tmp 79) (y := .const (.string ⟨#[32]⟩)) (a := (o ++ (⟨#[122, 111, 110, 101, 32]⟩ : ByteArray)) ++ r2_) (b := (⟨#[32]⟩ : ByteArray)) (by kernel_rfl) (by kernel_rfl) (by kernel_rfl) (by kernel_rfl) (by simp only [cat_size, strOf_size, List.length_cons, List.length_nil]; omega) ·) ?_
     refine dv (At.a 2 ·) ?_
     refine Exists.elim (spec_l12Num_spec  e2.off (by omega)) fun r3_ hr3_ => ?_
     obtain ⟨qr3_, hr3_⟩ := hr3_
     try dsimp only at qr3_
     refine dv (At.c (hr3_) Try.call50 true [] [] [] trivial ·) ?_
     refine dv (At.cat (t := 9) (u := 9) (d := 84) (x := .tmp 80) (y := .tmp 83) (a := ((o ++ (⟨#[122, 111, 110, 101, 32]⟩ : ByteArray)) ++ r2_) ++ (⟨#[32]⟩ : ByteArray)) (b := r3_) (by kernel_rfl) (by kernel_rfl) (by kernel_rfl) (by kernel_rfl) (by simp only [cat_size, strOf_size, List.length_cons, List.length_nil]; omega) ·) ?_
     refine dv (At.cat (t := 9) (u := 9) (d := 85) (x := .tmp 84) (y := .const (.string ⟨#[32]⟩)) (a := (((o ++ (⟨#[122, 111, 110, 101, 32]⟩ : ByteArray)) ++ r2_) ++ (⟨#[32]⟩ : ByteArray)) ++ r3_) (b := (⟨#[32]⟩ : ByteArray)) (by kernel_rfl) (by kernel_rfl) (by kernel_rfl) (by kernel_rfl) (by simp only [cat_size, strOf_size, List.length_cons, List.length_nil]; omega) ·) ?_
     refine dv (At.a 2 ·) ?_
     refine Exists.elim (spec_l12Letter_spec  e2.rule ) fun r4_ hr4_ => ?_
     obtain ⟨qr4_, hr4_⟩ := hr4_
     try dsimp only at qr4_
     refine dv (At.c (hr4_) Try.call49 true [] [] [] trivial ·) ?_
     refine dv (At.cat (t := 9) (u := 9) (d := 89) (x := .tmp 85) (y := .tmp 88) (a := ((((o ++ (⟨#[122, 111, 110, 101, 32]⟩ : ByteArray)) ++ r2_) ++ (⟨#[32]⟩ : ByteArray)) ++ r3_) ++ (⟨#[32]⟩ : ByteArray)) (b := r4_) (by kernel_rfl) (by kernel_rfl) (by kernel_rfl) (by kernel_rfl) (by simp only [cat_size, strOf_size, List.length_cons, List.length_nil]; omega) ·) ?_
     refine dv (At.cat (t := 9) (u := 9) (d := 90) (x := .tmp 89) (y := .const (.string ⟨#[10]⟩)) (a := (((((o ++ (⟨#[122, 111, 110, 101, 32]⟩ : ByteArray)) ++ r2_) ++ (⟨#[32]⟩ : ByteArray)) ++ r3_) ++ (⟨#[32]⟩ : ByteArray)) ++ r4_) (b := (⟨#[10]⟩ : ByteArray)) (by kernel_rfl) (by kernel_rfl) (by kernel_rfl) (by kernel_rfl) (by simp only [cat_size, strOf_size, List.length_cons, List.length_nil]; omega) ·) ?_
     refine dv (At.zD 1 ·) ?_
     refine dv (AW.g ·) ?_
     refine dv (At.a 2 ·) ?_
     refine dv (At.sI 68 ((k : Int) + 1) (by omega) ·) ?_
     refine dv (At.z 1 ·) ?_
     exact dw (fun _ h_ => AWL.weak (Sub.o [(101, 101)] [false, true, false, false, true, false, false, true]) h_) (ih2 (k + 1, (((((((o ++ (⟨#[122, 111, 110, 101, 32]⟩ : ByteArray)) ++ r2_) ++ (⟨#[32]⟩ : ByteArray)) ++ r3_) ++ (⟨#[32]⟩ : ByteArray)) ++ r4_) ++ (⟨#[10]⟩ : ByteArray))) (⟨by omega, by simp only [cat_size]; omega⟩) (by simp only; omega))
   refine dv (AW.condF (decide ((k : Int) < (s.zones.length : Int))) (by kernel_rfl) (decide_eq_false h3) ·) ?_
   refine dv (AW.exit ·) ?_
   refine dv (AW.seq ·) ?_
   refine dv (AW.q 1 ·) ?_
   refine dv (AW.block ·) ?_
   refine DW.loopQ (fun (x : Nat × ByteArray) => match x with | (k, o) => Go.Sy.mk [.un, .ptr 101 0 0, .un, .un, .str o, .un, .un, .un, .un, .int .i64 (k : Int)] [(101, .box 60 [.sl false 9 (s.rules.map encRul), .sl false 3 (s.zones.map encZon), .sl false 2 (s.links.map encLnk)])]) (fun (x : Nat × ByteArray) => match x with | (k, o) => k ≤ s.links.length ∧ o.size ≤ 4000000000 + 2000000 * k) (fun (x : Nat × ByteArray) => match x with | (k, o) => s.links.length - k) (0, o) ⟨by omega, by omega⟩ (Sub.o [(101, 101)] [false, true, false, false, true, false, false, false, false, true]) ?_
   rintro ⟨k, o⟩ ⟨hk, ho⟩ ih3
   refine dv (AW.seq ·) ?_
   refine dv (AW.r ·) ?_
   refine dv (At.a 4 ·) ?_
   refine dv (At.sL 94 encLnk s.links ·) ?_
   refine dv (At.z 1 ·) ?_
   by_cases h4 : (k : Int) < (s.links.length : Int)
   · refine dv (AW.condT (decide ((k : Int) < (s.links.length : Int))) (by kernel_rfl) (decide_eq_true h4) ·) ?_
     refine dv (AW.skip ·) ?_
     refine dv (AW.seq ·) ?_
     refine dv (AW.block ·) ?_
     refine dv (AW.gD Try_mix ·) ?_
     refine dv (At.a 1 ·) ?_
     refine dv (At.cat (t := 9) (u := 9) (d := 99) (x := .tmp 98) (y := .const (.string ⟨#[108, 105, 110, 107, 32]⟩)) (a := o) (b := (⟨#[108, 105, 110, 107, 32]⟩ : ByteArray)) (by kernel_rfl) (by kernel_rfl) (by kernel_rfl) (by kernel_rfl) (by omega) ·) ?_
     refine dv (At.a 3 ·) ?_
     refine dv (At.iSl 58 103 (.tmp 101) (.tmp 102) false 2 (s.links.map encLnk) .i64 (k : Int) 94 (by omega) (by simp only [List.length_map]; omega) ·) ?_
     refine dv (At.a 1 ·) ?_
     refine Exists.elim (gE s.links k (by omega)) fun e3 he3 => ?_
     refine dv (At.lVp 3 105 (.tmp 104) false 2 (s.links.map encLnk) k 0 false 1 (encLnk e3) (.int .i64 e3.name) (mapGet he3) ·) ?_
     refine Exists.elim (spec_l12Letter_spec  e3.name ) fun r2_ hr2_ => ?_
     obtain ⟨qr2_, hr2_⟩ := hr2_
     try dsimp only at qr2_
     refine dv (At.c (hr2_) Try.call49 true [] [] [] trivial ·) ?_
     refine dv (At.cat (t := 9) (u := 9) (d := 107) (x := .tmp 99) (y := .tmp 106) (a := o ++ (⟨#[108, 105, 110, 107, 32]⟩ : ByteArray)) (b := r2_) (by kernel_rfl) (by kernel_rfl) (by kernel_rfl) (by kernel_rfl) (by simp only [cat_size, strOf_size, List.length_cons, List.length_nil]; omega) ·) ?_
     refine dv (At.cat (t := 9) (u := 9) (d := 108) (x := .tmp 107) (y := .const (.string ⟨#[32]⟩)) (a := (o ++ (⟨#[108, 105, 110, 107, 32]⟩ : ByteArray)) ++ r2_) (b := (⟨#[32]⟩ : ByteArray)) (by kernel_rfl) (by kernel_rfl) (by kernel_rfl) (by kernel_rfl) (by simp only [cat_size, strOf_size, List.length_cons, List.length_nil]; omega) ·) ?_
     refine dv (At.a 3 ·) ?_
     refine dv (At.iSl 58 112 (.tmp 110) (.tmp 111) false 2 (s.links.map encLnk) .i64 (k : Int) 94 (by omega) (by simp only [List.length_map]; omega) ·) ?_
     refine dv (At.a 1 ·) ?_
     refine dv (At.lVp 3 114 (.tmp 113) false 2 (s.links.map encLnk) k 1 false 1 (encLnk e3) (.int .i64 e3.to) (mapGet he3) ·) ?_
     refine Exists.elim (spec_l12Letter_spec  e3.to ) fun r3_ hr3_ => ?_
     obtain ⟨qr3_, hr3_⟩ := hr3_
     try dsimp only at qr3_
     refine dv (At.c (hr3_) Try.call49 true [] [] [] trivial ·) ?_
     refine dv (At.cat (t := 9) (u := 9) (d := 116) (x := .tmp 108) (y := .tmp 115) (a := ((o ++ (⟨#[108, 105, 110, 107, 32]⟩ : ByteArray)) ++ r2_) ++ (⟨#[32]⟩ : ByteArray)) (b := r3_) (by kernel_rfl) (by kernel_rfl) (by kernel_rfl) (by kernel_rfl) (by simp only [cat_size, strOf_size, List.length_cons, List.length_nil]; omega) ·) ?_
     refine dv (At.cat (t := 9) (u := 9) (d := 117) (x := .tmp 116) (y := .const (.string ⟨#[10]⟩)) (a := (((o ++ (⟨#[108, 105, 110, 107, 32]⟩ : ByteArray)) ++ r2_) ++ (⟨#[32]⟩ : ByteArray)) ++ r3_) (b := (⟨#[10]⟩ : ByteArray)) (by kernel_rfl) (by kernel_rfl) (by kernel_rfl) (by kernel_rfl) (by simp only [cat_size, strOf_size, List.length_cons, List.length_nil]; omega) ·) ?_
     refine dv (At.zD 1 ·) ?_
     refine dv (AW.g ·) ?_
     refine dv (At.a 2 ·) ?_
     refine dv (At.sI 97 ((k : Int) + 1) (by omega) ·) ?_
     refine dv (At.z 1 ·) ?_
     exact dw (fun _ h_ => AWL.weak (Sub.o [(101, 101)] [false, true, false, false, true, false, false, false, false, true]) h_) (ih3 (k + 1, (((((o ++ (⟨#[108, 105, 110, 107, 32]⟩ : ByteArray)) ++ r2_) ++ (⟨#[32]⟩ : ByteArray)) ++ r3_) ++ (⟨#[10]⟩ : ByteArray))) (⟨by omega, by simp only [cat_size]; omega⟩) (by simp only; omega))
   refine dv (AW.condF (decide ((k : Int) < (s.links.length : Int))) (by kernel_rfl) (decide_eq_false h4) ·) ?_
   refine dv (AW.exit ·) ?_
   refine dv (AW.seq ·) ?_
   refine dv (AW.q 3 ·) ?_
   by_cases h5 : (o.size : Int) > 1000
   · refine dv (AW.condT (decide ((o.size : Int) > 1000)) (by kernel_rfl) (decide_eq_true h5) ·) ?_
     refine dv (AW.q 2 ·) ?_
     refine dv (AW.ret ·) ?_
     refine dv (⟨_, Sub.refl _ _, ·⟩) ?_
     exact ⟨((⟨#[]⟩ : ByteArray), false), (by (try dsimp only); first | omega | decide), KF.mk (.inr rfl) [] [.str (⟨#[]⟩ : ByteArray), .bool false] (by kernel_rfl) (by kernel_rfl) (by kernel_rfl) (by kernel_rfl) (by kernel_rfl)⟩
   refine dv (AW.condF (decide ((o.size : Int) > 1000)) (by kernel_rfl) (decide_eq_false h5) ·) ?_
   refine dv (AW.skip ·) ?_
   refine dv (AW.q 3 ·) ?_
   refine dv (AW.ret ·) ?_
   refine dv (⟨_, Sub.refl _ _, ·⟩) ?_
   exact ⟨(o, true), (by (try dsimp only); first | omega | decide), KF.mk (.inr rfl) [] [.str o, .bool true] (by kernel_rfl) (by kernel_rfl) (by kernel_rfl) (by kernel_rfl) (by kernel_rfl)⟩
 replace h1 := Bool.eq_false_iff.2 h1
 refine dv (AW.condT (!r1_) (by kernel_rfl) (by rw [show (r1_) = false from h1]; rfl) ·) ?_
 refine dv (AW.q 2 ·) ?_
 refine dv (AW.ret ·) ?_
 refine dv (⟨_, Sub.refl _ _, ·⟩) ?_
 exact ⟨((⟨#[]⟩ : ByteArray), false), (by (try dsimp only); first | omega | decide), KF.mk (.inr rfl) [] [.str (⟨#[]⟩ : ByteArray), .bool false] (by kernel_rfl) (by kernel_rfl) (by kernel_rfl) (by kernel_rfl) (by kernel_rfl)⟩
theorem spec_DrawReleaseText_spec  (code : List UInt8) (hc : code.length ≤ 1048576) : ∃ rho_ : ByteArray, (rho_.size ≤ 1000000) ∧ FnSpec Try.prog 11 [.sl false 1 (code.map encU8)] [] (.str rho_) [] := by
 refine dv (fun h_ => FnSpec.of 21 Try.func11 rfl Try.ntmps11 (by simp) (AW.weakK h_)) ?_
 refine dv (AW.q 1 ·) ?_
 refine dv (AW.r ·) ?_
 refine dv (At.a 1 ·) ?_
 refine Exists.elim (spec_l1New_spec  code hc) fun r1_ hr1_ => ?_
 obtain ⟨qr1_, hr1_⟩ := hr1_
 try dsimp only at qr1_
 refine dv (At.c (hr1_) Try.call28 true [] [(1140, 0)] [] trivial ·) ?_
 refine dv (At.z 1 ·) ?_
 refine dv (AW.seq ·) ?_
 refine dv (AW.r ·) ?_
 refine dv (At.a 1 ·) ?_
 refine Exists.elim (spec_l1Once_spec  (⟨code, 0, r1_⟩ : Cur) 2 (by dsimp only; omega)) fun r2_ hr2_ => ?_
 obtain ⟨qr2_, hr2_⟩ := hr2_
 try dsimp only at qr2_
 refine dv (At.c (hr2_) Try.call29 true [(1140, 0)] [] [] trivial ·) ?_
 refine dv (At.done rfl ·) ?_
 by_cases h1 : r2_.2.2 = true
 · refine dv (AW.condT (r2_.2.2) (by kernel_rfl) h1 ·) ?_
   refine dv (AW.r ·) ?_
   refine dv (At.a 1 ·) ?_
   refine Exists.elim (spec_l15DrawText_spec  (⟨code, r2_.1, r2_.2.1⟩ : Cur) (by dsimp only; omega)) fun r3_ hr3_ => ?_
   obtain ⟨qr3_, hr3_⟩ := hr3_
   try dsimp only at qr3_
   refine dv (At.c (hr3_) Try.call30 true [(1140, 0)] [] [] trivial ·) ?_
   refine dv (At.z 1 ·) ?_
   refine dv (AW.ret ·) ?_
   refine dv (⟨_, Sub.refl _ _, ·⟩) ?_
   exact ⟨(r3_.2.2), (by (try dsimp only); first | omega | decide), KF.mk (.inr rfl) [] [.str r3_.2.2] (by kernel_rfl) (by kernel_rfl) (by kernel_rfl) (by kernel_rfl) (by kernel_rfl)⟩
 replace h1 := Bool.eq_false_iff.2 h1
 refine dv (AW.condF (r2_.2.2) (by kernel_rfl) h1 ·) ?_
 refine dv (AW.skip ·) ?_
 refine dv (AW.r ·) ?_
 refine dv (At.a 1 ·) ?_
 refine Exists.elim (spec_l13DrawSource_spec  (⟨code, r2_.1, r2_.2.1⟩ : Cur) (by dsimp only; omega)) fun r3_ hr3_ => ?_
 obtain ⟨qr3_, hr3_⟩ := hr3_
 try dsimp only at qr3_
 refine dv (At.c (hr3_) Try.call32 true [(1140, 0)] [(1280, 1), (1281, 2), (1282, 3)] [] trivial ·) ?_
 have hSm := qr3_.2.2
 refine Exists.elim (spec_SourcePrint_spec  r3_.2.2 (SmS.mono hSm (by decide) (by decide) (by decide))) fun r4_ hr4_ => ?_
 obtain ⟨qr4_, hr4_⟩ := hr4_
 try dsimp only at qr4_
 refine dv (At.c (hr4_) Try.call31 false [] [] [(1280, 9, (r3_.2.2.rules.map encRul)), (1281, 3, (r3_.2.2.zones.map encZon)), (1282, 2, (r3_.2.2.links.map encLnk))] ⟨rfl, ⟨88, (r3_.2.2.rules.map encRul), by kernel_rfl, FrzIs.same (allP_encRul _)⟩, rfl, ⟨92, (r3_.2.2.zones.map encZon), by kernel_rfl, FrzIs.same (allP_encZon _)⟩, rfl, ⟨94, (r3_.2.2.links.map encLnk), by kernel_rfl, FrzIs.same (allP_encLnk _)⟩, trivial⟩ ·) ?_
 refine dv (At.z 5 ·) ?_
 refine dv (AW.seq ·) ?_
 refine dv (AW.q 2 ·) ?_
 by_cases h2 : r4_.2 = true
 · refine dv (AW.condF (!r4_.2) (by kernel_rfl) (by rw [show (r4_.2) = true from h2]; rfl) ·) ?_
   refine dv (AW.skip ·) ?_
   refine dv (AW.q 2 ·) ?_
   refine dv (AW.ret ·) ?_
   refine dv (⟨_, Sub.refl _ _, ·⟩) ?_
   exact ⟨(r4_.1), (by (try dsimp only); first | omega | decide), KF.mk (.inr rfl) [] [.str r4_.1] (by kernel_rfl) (by kernel_rfl) (by kernel_rfl) (by kernel_rfl) (by kernel_rfl)⟩
 replace h2 := Bool.eq_false_iff.2 h2
 refine dv (AW.condT (!r4_.2) (by kernel_rfl) (by rw [show (r4_.2) = false from h2]; rfl) ·) ?_
 refine dv (AW.q 1 ·) ?_
 refine dv (AW.ret ·) ?_
 refine dv (⟨_, Sub.refl _ _, ·⟩) ?_
 exact ⟨((⟨#[122, 111, 110, 101, 32, 65, 32, 48, 32, 45, 10]⟩ : ByteArray)), (by (try dsimp only); first | omega | decide), KF.mk (.inr rfl) [] [.str (⟨#[122, 111, 110, 101, 32, 65, 32, 48, 32, 45, 10]⟩ : ByteArray)] (by kernel_rfl) (by kernel_rfl) (by kernel_rfl) (by kernel_rfl) (by kernel_rfl)⟩
theorem spec_l1Size_spec  (code : List UInt8) (most : Int) (hc : code.length ≤ 1048576) : ∃ rho_ : Int, (rho_ ≤ most ∧ (0 ≤ most → 0 ≤ rho_)) ∧ FnSpec Try.prog 55 [.sl false 1 (code.map encU8), .int .i64 most] [] (.int .i64 rho_) [] := by
 refine dv (fun h_ => FnSpec.of 15 Try.func55 rfl Try.ntmps55 (by simp) (AW.weakK h_)) ?_
 refine dv (AW.q 1 ·) ?_
 refine dv (AW.r ·) ?_
 refine dv (At.a 2 ·) ?_
 refine dv (At.sL 7 encU8 code ·) ?_
 refine dv (At.div (t := 3) (u := 3) (d := 8) (op := .quo) (x := .tmp 7) (y := .const (.int .i64 20)) (kd := .i64) (a := (code.length : Int)) (b := 20) (by kernel_rfl) (by kernel_rfl) (by kernel_rfl) (by kernel_rfl) (by omega) (.int .i64 (IntKind.i64.wrap ((code.length : Int).tdiv 20))) (.inl ⟨rfl, rfl⟩) ·) ?_
 refine dv (At.say 8 (.int .i64 (IntKind.i64.wrap ((code.length : Int).tdiv 20))) (.int .i64 ((code.length : Int) / 20)) (by kernel_rfl) (sayQuo (by omega) (by omega) (by omega)) ·) ?_
 refine dv (At.a 1 ·) ?_
 refine dv (At.sI 9 (2 + ((code.length : Int) / 20)) (by omega) ·) ?_
 refine dv (At.z 1 ·) ?_
 refine dv (AW.seq ·) ?_
 refine dv (AW.q 3 ·) ?_
 by_cases h1 : (2 + ((code.length : Int) / 20)) > most
 · refine dv (AW.condT (decide ((2 + ((code.length : Int) / 20)) > most)) (by kernel_rfl) (decide_eq_true h1) ·) ?_
   refine dv (AW.q 2 ·) ?_
   refine dv (AW.ret ·) ?_
   refine dv (⟨_, Sub.refl _ _, ·⟩) ?_
   exact ⟨(most), (by (try dsimp only); omega), KF.mk (.inr rfl) [] [.int .i64 most] (by kernel_rfl) (by kernel_rfl) (by kernel_rfl) (by kernel_rfl) (by kernel_rfl)⟩
 refine dv (AW.condF (decide ((2 + ((code.length : Int) / 20)) > most)) (by kernel_rfl) (decide_eq_false h1) ·) ?_
 refine dv (AW.skip ·) ?_
 refine dv (AW.q 2 ·) ?_
 refine dv (AW.ret ·) ?_
 refine dv (⟨_, Sub.refl _ _, ·⟩) ?_
 exact ⟨(2 + ((code.length : Int) / 20)), (by (try dsimp only); omega), KF.mk (.inr rfl) [] [.int .i64 (2 + ((code.length : Int) / 20))] (by kernel_rfl) (by kernel_rfl) (by kernel_rfl) (by kernel_rfl) (by kernel_rfl)⟩
theorem spec_l1DrawBytes_spec  (c : Cur) (most : Int) (hp : 0 ≤ c.pos ∧ c.pos ≤ c.data.length ∧ c.data.length ≤ 1048576) (hm : 0 ≤ most ∧ most ≤ 100000) : ∃ rho_ : Int × Int × List UInt8, (0 ≤ rho_.1 ∧ rho_.1 ≤ c.data.length ∧ (rho_.2.2.length : Int) ≤ max most 0) ∧ FnSpec Try.prog 54 [.ptr 0 0 0, .int .i64 most] [.box 81 [.sl false 1 (c.data.map encU8), .int .i64 c.pos, .int .i64 c.seed]] (.ref 1) [.box 81 [.sl false 1 (c.data.map encU8), .int .i64 rho_.1, .int .i64 rho_.2.1], .arr 5 1 (rho_.2.2.map encU8)] := by
 refine dv (fun h_ => FnSpec.of 25 Try.func54 rfl Try.ntmps54 (by simp) (AW.weakK h_)) ?_
 refine dv (AW.q 1 ·) ?_
 refine dv (AW.r ·) ?_
 refine dv (At.lit0 (t := 32) (d := 8) (e := 5) (es := 1) (bytes := 1) 108 (by kernel_rfl) (by kernel_rfl) (by kernel_rfl) (by kernel_rfl) ·) ?_
 refine dv (At.z 1 ·) ?_
 refine dv (AW.r ·) ?_
 refine dv (At.a 3 ·) ?_
 refine dv (At.sI 11 (most + 1) (by omega) ·) ?_
 refine Exists.elim (spec_l1Below_spec  c (most + 1) (by omega)) fun r1_ hr1_ => ?_
 obtain ⟨qr1_, hr1_⟩ := hr1_
 try dsimp only at qr1_
 try simp only [Int.reduceLT, Int.reduceLE, true_implies, false_implies, and_true] at qr1_
 refine dv (At.c (hr1_) Try.call46 true [(0, 0)] [] [] trivial ·) ?_
 refine dv (At.z 1 ·) ?_
 refine dv (AW.seq ·) ?_
 refine dv (AW.q 1 ·) ?_
 refine dv (AW.block ·) ?_
 refine DW.loopQ (fun (x : Nat × List UInt8 × Int × Int) => match x with | (k, o, p, s) => Go.Sy.mk [.ptr 0 0 0, .un, .un, .un, .un, .ref 108, .int .i64 r1_.2.2, .int .i64 (k : Int)] [(0, .box 81 [.sl false 1 (c.data.map encU8), .int .i64 p, .int .i64 s]), (108, .arr 5 1 (o.map encU8))]) (fun (x : Nat × List UInt8 × Int × Int) => match x with | (k, o, p, s) => (k : Int) ≤ r1_.2.2 ∧ o.length = k ∧ (0 ≤ p ∧ p ≤ c.data.length)) (fun (x : Nat × List UInt8 × Int × Int) => match x with | (k, o, p, s) => r1_.2.2.toNat - k) (0, [], r1_.1, r1_.2.1) ⟨by omega, rfl, by omega⟩ (Sub.o [(0, 0), (108, 108)] [true, false, false, false, false, true, true, true]) ?_
 rintro ⟨k, o, p, s⟩ hk ih1
 refine dv (AW.seq ·) ?_
 refine dv (AW.q 3 ·) ?_
 by_cases h1 : (k : Int) < r1_.2.2
 · refine dv (AW.condT (decide ((k : Int) < r1_.2.2)) (by kernel_rfl) (decide_eq_true h1) ·) ?_
   refine dv (AW.skip ·) ?_
   refine dv (AW.seq ·) ?_
   refine dv (AW.block ·) ?_
   refine dv (AW.g ·) ?_
   refine dv (At.a 2 ·) ?_
   refine Exists.elim (spec_l1Byte_spec  (⟨c.data, p, s⟩ : Cur) (by dsimp only; omega)) fun r2_ hr2_ => ?_
   obtain ⟨qr2_, hr2_⟩ := hr2_
   try dsimp only at qr2_
   refine dv (At.c (hr2_) Try.call66 true [(0, 0)] [] [] trivial ·) ?_
   refine dv (At.conv (s := 3) (t := 5) (d := 21) (x := .tmp 20) (kd := .i64) (kd' := .u8) (a := r2_.2.2) (.int .u8 ((u8Of r2_.2.2).toNat : Int)) (by kernel_rfl) (by kernel_rfl) (by kernel_rfl) (by kernel_rfl) (sayByte _) ·) ?_
   refine dv (At.ll 22 5 1 122 (0, 6) (([(u8Of r2_.2.2)]).map encU8) ·) ?_
   refine dv (At.apK 23 5 1 1 123 108 122 encU8 o ([(u8Of r2_.2.2)]) (by simp only [List.length_map, List.length_append, List.length_take, List.length_drop, List.length_replicate, List.length_set, List.length_cons, List.length_nil]; omega) ·) ?_
   refine dv (At.z 1 ·) ?_
   refine dv (AW.g ·) ?_
   refine dv (At.a 2 ·) ?_
   refine dv (At.sI 17 ((k : Int) + 1) (by omega) ·) ?_
   refine dv (At.z 1 ·) ?_
   exact dw (fun _ h_ => AWL.weak (Sub.o [(0, 0), (123, 108)] [true, false, false, false, false, true, true, true]) h_) (ih1 (k + 1, (o ++ ([(u8Of r2_.2.2)])), r2_.1, r2_.2.1) (by simp only [List.length_append, List.length_cons, List.length_nil]; omega) (by simp only; omega))
 refine dv (AW.condF (decide ((k : Int) < r1_.2.2)) (by kernel_rfl) (decide_eq_false h1) ·) ?_
 refine dv (AW.exit ·) ?_
 refine dv (AW.q 2 ·) ?_
 refine dv (AW.ret ·) ?_
 refine dv (⟨_, Sub.refl _ _, ·⟩) ?_
 exact ⟨(p, s, o), (by dsimp only; omega), KF.mk (.inr rfl) [(0, 0), (108, 1)] [.ref 108] (by kernel_rfl) (by kernel_rfl) (by kernel_rfl) (by kernel_rfl) (by kernel_rfl)⟩
theorem spec_l2DrawBytes_spec  (code : List UInt8) (hc : code.length ≤ 1048576) : ∃ rho_ : List UInt8, (rho_.length ≤ 1000000) ∧ FnSpec Try.prog 33 [.sl false 1 (code.map encU8)] [] (.ref 0) [.arr 5 1 (rho_.map encU8)] := by
 refine dv (fun h_ => FnSpec.of 24 Try.func33 rfl Try.ntmps33 (by simp) (AW.weakK h_)) ?_
 refine dv (AW.q 1 ·) ?_
 refine dv (AW.r ·) ?_
 refine dv (At.a 1 ·) ?_
 refine Exists.elim (spec_l1New_spec  code hc) fun r1_ hr1_ => ?_
 obtain ⟨qr1_, hr1_⟩ := hr1_
 try dsimp only at qr1_
 refine dv (At.c (hr1_) Try.call28 true [] [(1100, 0)] [] trivial ·) ?_
 refine dv (At.z 1 ·) ?_
 refine dv (AW.seq ·) ?_
 refine dv (AW.r ·) ?_
 refine dv (At.a 1 ·) ?_
 refine Exists.elim (spec_l1Below_spec  (⟨code, 0, r1_⟩ : Cur) 12 (by dsimp only; omega)) fun r2_ hr2_ => ?_
 obtain ⟨qr2_, hr2_⟩ := hr2_
 try dsimp only at qr2_
 try simp only [Int.reduceLT, Int.reduceLE, true_implies, false_implies, and_true] at qr2_
 refine dv (At.c (hr2_) Try.call46 true [(1100, 0)] [] [] trivial ·) ?_
 refine dv (At.done rfl ·) ?_
 refine dv (AW.block ·) ?_
 refine dv (AW.q 2 ·) ?_
 by_cases h1 : r2_.2.2 = 0
 · refine dv (AW.condT (r2_.2.2 == 0) (by kernel_rfl) (beq_iff_eq.2 h1) ·) ?_
   refine dv (AW.r ·) ?_
   refine dv (At.a 1 ·) ?_
   refine dv (At.ll 11 3 1 111 (0, 6) (([54, 55, 56, 63, 64, 65, 119, 120]).map encI) ·) ?_
   refine Exists.elim (spec_l1PickInt_spec  (⟨code, r2_.1, r2_.2.1⟩ : Cur) ([54, 55, 56, 63, 64, 65, 119, 120]) (by dsimp only; omega) (by decide)) fun r3_ hr3_ => ?_
   obtain ⟨qr3_, hr3_⟩ := hr3_
   try dsimp only at qr3_
   refine dv (At.c (hr3_) Try.call53 true [(1100, 0), (111, 1)] [] [] trivial ·) ?_
   have hpk := qr3_.2.2
   simp only [List.mem_cons, List.not_mem_nil, or_false] at hpk
   refine dv (At.say 12 (.int .i64 r3_.2.2) (.int .i64 (((r3_.2.2).toNat : Nat) : Int)) (by kernel_rfl) (congrArg (V.int .i64) (Int.toNat_of_nonneg (by omega)).symm) ·) ?_
   refine dv (At.make (t := 32) (d := 13) (e := 5) (es := 1) (bytes := 1) (x := .tmp 12) (y := .tmp 12) (ka := .i64) (kb := .i64) (zs := [.int .u8 0]) 113 ((r3_.2.2).toNat) ((List.replicate ((r3_.2.2).toNat) (0 : UInt8)).map encU8) (by kernel_rfl) (by kernel_rfl) (by kernel_rfl) (by kernel_rfl) (by kernel_rfl) (by omega) (by omega) (by rw [List.map_replicate]; rfl) ·) ?_
   refine dv (At.z 1 ·) ?_
   refine dv (AW.ret ·) ?_
   refine dv (⟨_, Sub.refl _ _, ·⟩) ?_
   exact ⟨(List.replicate ((r3_.2.2).toNat) (0 : UInt8)), (by (try dsimp only); (try simp only [List.length_replicate]); omega), KF.mk (.inr rfl) [(113, 0)] [.ref 113] (by kernel_rfl) (by kernel_rfl) (by kernel_rfl) (by kernel_rfl) (by kernel_rfl)⟩
 refine dv (AW.condF (r2_.2.2 == 0) (by kernel_rfl) (beq_eq_false_iff_ne.2 h1) ·) ?_
 refine dv (AW.q 2 ·) ?_
 by_cases h2 : r2_.2.2 = 1
 · refine dv (AW.condT (r2_.2.2 == 1) (by kernel_rfl) (beq_iff_eq.2 h2) ·) ?_
   refine dv (AW.r ·) ?_
   refine dv (At.a 1 ·) ?_
   refine Exists.elim (spec_l1Below_spec  (⟨code, r2_.1, r2_.2.1⟩ : Cur) 2 (by dsimp only; omega)) fun r3_ hr3_ => ?_
   obtain ⟨qr3_, hr3_⟩ := hr3_
   try dsimp only at qr3_
   try simp only [Int.reduceLT, Int.reduceLE, true_implies, false_implies, and_true] at qr3_
   refine dv (At.c (hr3_) Try.call46 true [(1100, 0)] [] [] trivial ·) ?_
   refine dv (At.a 1 ·) ?_
   refine dv (At.sI 18 (4000 + r3_.2.2) (by omega) ·) ?_
   refine dv (At.say 18 (.int .i64 (4000 + r3_.2.2)) (.int .i64 (((4000 + r3_.2.2).toNat : Nat) : Int)) (by kernel_rfl) (congrArg (V.int .i64) (Int.toNat_of_nonneg (by omega)).symm) ·) ?_
   refine dv (At.make (t := 32) (d := 19) (e := 5) (es := 1) (bytes := 1) (x := .tmp 18) (y := .tmp 18) (ka := .i64) (kb := .i64) (zs := [.int .u8 0]) 119 ((4000 + r3_.2.2).toNat) ((List.replicate ((4000 + r3_.2.2).toNat) (0 : UInt8)).map encU8) (by kernel_rfl) (by kernel_rfl) (by kernel_rfl) (by kernel_rfl) (by kernel_rfl) (by omega) (by omega) (by rw [List.map_replicate]; rfl) ·) ?_
   refine dv (At.z 1 ·) ?_
   refine dv (AW.ret ·) ?_
   refine dv (⟨_, Sub.refl _ _, ·⟩) ?_
   exact ⟨(List.replicate ((4000 + r3_.2.2).toNat) (0 : UInt8)), (by (try dsimp only); (try simp only [List.length_replicate]); omega), KF.mk (.inr rfl) [(119, 0)] [.ref 119] (by kernel_rfl) (by kernel_rfl) (by kernel_rfl) (by kernel_rfl) (by kernel_rfl)⟩
 refine dv (AW.condF (r2_.2.2 == 1) (by kernel_rfl) (beq_eq_false_iff_ne.2 h2) ·) ?_
 refine dv (AW.skip ·) ?_
 refine dv (AW.r ·) ?_
 refine dv (At.a 2 ·) ?_
 refine Exists.elim (spec_l1Size_spec  code 130 (by omega)) fun r3_ hr3_ => ?_
 obtain ⟨qr3_, hr3_⟩ := hr3_
 try dsimp only at qr3_
 refine dv (At.c (hr3_) Try.call55 true [] [] [] trivial ·) ?_
 refine Exists.elim (spec_l1DrawBytes_spec  (⟨code, r2_.1, r2_.2.1⟩ : Cur) r3_ (by dsimp only; omega) (by omega)) fun r4_ hr4_ => ?_
 obtain ⟨qr4_, hr4_⟩ := hr4_
 try dsimp only at qr4_
 refine dv (At.c (hr4_) Try.call54 true [(1100, 0)] [(1460, 1)] [] trivial ·) ?_
 refine dv (At.z 1 ·) ?_
 refine dv (AW.ret ·) ?_
 refine dv (⟨_, Sub.refl _ _, ·⟩) ?_
 exact ⟨(r4_.2.2), (by (try dsimp only); (try simp only [List.length_replicate]); omega), KF.mk (.inr rfl) [(1460, 0)] [.ref 1460] (by kernel_rfl) (by kernel_rfl) (by kernel_rfl) (by kernel_rfl) (by kernel_rfl)⟩
theorem spec_DrawShaText_spec  (code : List UInt8) (hc : code.length ≤ 1048576) : ∃ rho_ : ByteArray, (rho_.size ≤ 1000000) ∧ FnSpec Try.prog 12 [.sl false 1 (code.map encU8)] [] (.str rho_) [] := by
 refine dv (fun h_ => FnSpec.of 6 Try.func12 rfl Try.ntmps12 (by simp) (AW.weakK h_)) ?_
 refine dv (AW.q 1 ·) ?_
 refine dv (AW.r ·) ?_
 refine dv (At.a 1 ·) ?_
 refine Exists.elim (spec_l2DrawBytes_spec  code hc) fun r1_ hr1_ => ?_
 obtain ⟨qr1_, hr1_⟩ := hr1_
 try dsimp only at qr1_
 refine dv (At.c (hr1_) Try.call33 true [] [(1080, 0)] [] trivial ·) ?_
 refine dv (At.b2s (s := 32) (t := 9) (e := 5) (d := 5) (x := .tmp 4) (T := .ref 1080) (r1_) [] (by kernel_rfl) (by kernel_rfl) (by kernel_rfl) (by kernel_rfl) ⟨by kernel_rfl, .inl ⟨rfl, (allP_encU8 _)⟩⟩ ·) ?_
 refine dv (At.z 1 ·) ?_
 refine dv (AW.ret ·) ?_
 refine dv (⟨_, Sub.refl _ _, ·⟩) ?_
 exact ⟨(strOf r1_), (by (try dsimp only); rw [strOf_size]; omega), KF.mk (.inr rfl) [] [.str (strOf r1_)] (by kernel_rfl) (by kernel_rfl) (by kernel_rfl) (by kernel_rfl) (by kernel_rfl)⟩
theorem spec_l2Low_spec  (x : Int) : FnSpec Try.prog 57 [.int .i64 x] [] (.int .i64 (x % 4294967296)) [] := by
 refine FnSpec.of 5 Try.func57 rfl Try.ntmps57 (by simp) (AW.weakK ?_)
 refine AW.q 1 ?_
 refine AW.r ?_
 refine At.a 1 ?_
 refine At.bits (t := 3) (u := 3) (d := 4) (op := .and) (x := .tmp 3) (y := .const (.int .i64 4294967295)) (kd := .i64) (a := x) (b := 4294967295) (x % 4294967296) (by kernel_rfl) (by kernel_rfl) (by kernel_rfl) (by kernel_rfl) (andM 32 4294967296 _ _ (by decide) (by decide) (by decide)) ?_
 refine At.z 1 ?_
 exact AW.ret (rf (KF.n []))
theorem spec_l2Turn_spec  (x : Int) (n : Int) (hx : 0 ≤ x ∧ x < 4294967296) (hn : 2 ≤ n ∧ n ≤ 30) : FnSpec Try.prog 56 [.int .i64 x, .int .i64 n] [] (.int .i64 (turnI x n)) [] := by
 refine FnSpec.of 14 Try.func56 rfl Try.ntmps56 (by simp) (AW.weakK ?_)
 refine AW.q 1 ?_
 refine AW.seq ?_
 refine AW.gD Try_mix ?_
 refine At.a 2 ?_
 refine At.shift (t := 3) (u := 3) (d := 7) (op := .shr) (x := .tmp 5) (y := .tmp 6) (kd := .i64) (kd' := .i64) (a := x) (b := n) (shV .shr .i64 x n) (by kernel_rfl) (by kernel_rfl) (by kernel_rfl) (by kernel_rfl) (by omega) (shS_shr _ _ _) ?_
 refine At.a 3 ?_
 refine At.sI 10 (32 - n) (by omega) ?_
 refine At.shift (t := 3) (u := 3) (d := 11) (op := .shl) (x := .tmp 8) (y := .tmp 10) (kd := .i64) (kd' := .i64) (a := x) (b := 32 - n) (shV .shl .i64 x (32 - n)) (by kernel_rfl) (by kernel_rfl) (by kernel_rfl) (by kernel_rfl) (by omega) (shS_shl _ _ _) ?_
 refine At.bits (t := 3) (u := 3) (d := 12) (op := .or) (x := .tmp 7) (y := .tmp 11) (kd := .i64) (a := shV .shr .i64 x n) (b := shV .shl .i64 x (32 - n)) (bitV .or .i64 (shV .shr .i64 x n) (shV .shl .i64 x (32 - n))) (by kernel_rfl) (by kernel_rfl) (by kernel_rfl) (by kernel_rfl) (bitS_or _ _ _) ?_
 refine At.c (spec_l2Low_spec  (bitV .or .i64 (shV .shr .i64 x n) (shV .shl .i64 x (32 - n))) ) Try.call57 true [] [] [] trivial ?_
 refine At.zD 1 ?_
 refine AW.ret ?_
 refine ⟨_, Sub.refl _ _, ?_⟩
 refine KF.conv (fun w => .int .i64 w) (fun w => []) (show ((bitV .or .i64 (shV .shr .i64 x n) (shV .shl .i64 x (32 - n))) % 4294967296) = (turnI x n) from rfl) ?_
 exact KF.n []
theorem spec_l2Keys_spec   : FnSpec Try.prog 58 [] [] (.ref 0) [.arr 3 1 (keysI.map encI)] := by
 refine FnSpec.of 2 Try.func58 rfl Try.ntmps58 (by simp) (AW.weakK ?_)
 refine AW.q 1 ?_
 refine AW.r ?_
 refine At.ll 1 3 1 101 (0, 6) (([1116352408, 1899447441, 3049323471, 3921009573, 961987163, 1508970993, 2453635748, 2870763221, 3624381080, 310598401, 607225278, 1426881987, 1925078388, 2162078206, 2614888103, 3248222580, 3835390401, 4022224774, 264347078, 604807628, 770255983, 1249150122, 1555081692, 1996064986, 2554220882, 2821834349, 2952996808, 3210313671, 3336571891, 3584528711, 113926993, 338241895, 666307205, 773529912, 1294757372, 1396182291, 1695183700, 1986661051, 2177026350, 2456956037, 2730485921, 2820302411, 3259730800, 3345764771, 3516065817, 3600352804, 4094571909, 275423344, 430227734, 506948616, 659060556, 883997877, 958139571, 1322822218, 1537002063, 1747873779, 1955562222, 2024104815, 2227730452, 2361852424, 2428436474, 2756734187, 3204031479, 3329325298]).map encI) ?_
 refine At.z 1 ?_
 refine AW.ret ?_
 refine ⟨_, Sub.refl _ _, ?_⟩
 refine KF.conv (fun w => .ref 0) (fun w => [.arr 3 1 (w.map encI)]) (show ([1116352408, 1899447441, 3049323471, 3921009573, 961987163, 1508970993, 2453635748, 2870763221, 3624381080, 310598401, 607225278, 1426881987, 1925078388, 2162078206, 2614888103, 3248222580, 3835390401, 4022224774, 264347078, 604807628, 770255983, 1249150122, 1555081692, 1996064986, 2554220882, 2821834349, 2952996808, 3210313671, 3336571891, 3584528711, 113926993, 338241895, 666307205, 773529912, 1294757372, 1396182291, 1695183700, 1986661051, 2177026350, 2456956037, 2730485921, 2820302411, 3259730800, 3345764771, 3516065817, 3600352804, 4094571909, 275423344, 430227734, 506948616, 659060556, 883997877, 958139571, 1322822218, 1537002063, 1747873779, 1955562222, 2024104815, 2227730452, 2361852424, 2428436474, 2756734187, 3204031479, 3329325298]) = (keysI) from rfl) ?_
 exact KF.n [(101, 0)]
theorem spec_l2Block_spec  (h : List Int) (b : List UInt8) (hh : h.length = 8) (ha : AllW h) (hb : b.length = 64) : FnSpec Try.prog 34 [.sl false 1 (h.map encI), .sl false 1 (b.map encU8)] [] (.ref 0) [.arr 3 1 ((roundI h b).map encI)] := by
 have hkl := keysI_len
 have hsl := sched_len b
 refine FnSpec.of 250 Try.func34 rfl Try.ntmps34 (by simp) (AW.weakK ?_)
 refine AW.q 1 ?_
 refine AW.r ?_
 refine At.lit0 (t := 39) (d := 21) (e := 3) (es := 1) (bytes := 8) 121 (by kernel_rfl) (by kernel_rfl) (by kernel_rfl) (by kernel_rfl) ?_
 refine At.z 1 ?_
 refine AW.seq ?_
 refine AW.q 1 ?_
 refine AW.block ?_
 refine AW.loopW (fun (x : Nat × List Int) => match x with | (k, l) => Go.Sy.mk [.sl false 1 (h.map encI), .sl false 1 (b.map encU8), .un, .un, .un, .ref 121, .int .i64 (k : Int)] [(121, .arr 3 1 (l.map encI))]) (fun (x : Nat × List Int) => match x with | (k, l) => k ≤ 16 ∧ l = wordsI b k ∧ l.length = k) (fun (x : Nat × List Int) => match x with | (k, l) => 16 - k) (0, []) ⟨by omega, rfl, rfl⟩ (Sub.o [(121, 121)] [true, true, false, false, false, true, true]) ?_
 rintro ⟨k, l⟩ ⟨hk, hq, hl⟩
 refine AW.seq ?_
 refine AW.q 2 ?_
 refine AW.cD ((k : Int) < 16) (fun h1 => ?_) (fun h1 => ?_)
 · refine AW.skip ?_
   refine AW.seq ?_
   refine AW.block ?_
   refine AW.gD Try_mix ?_
   refine At.a 4 ?_
   refine At.sI 29 (4 * (k : Int)) (by omega) ?_
   refine At.iSl 32 30 (.tmp 27) (.tmp 29) false 1 (b.map encU8) .i64 (4 * (k : Int)) 5 (by omega) (by simp only [List.length_map]; omega) ?_
   refine Exists.elim (gE b ((4 * (k : Int)).toNat) (by omega)) fun e1 he1 => ?_
   have hbe1 := UInt8.toNat_lt e1
   refine At.lVp 5 31 (.tmp 30) false 1 (b.map encU8) ((4 * (k : Int)).toNat) 0 false 1 (encU8 e1) (.int .u8 (e1.toNat : Int)) (mapGet he1) ?_
   refine At.conv (s := 5) (t := 3) (d := 32) (x := .tmp 31) (kd := .u8) (kd' := .i64) (a := (e1.toNat : Int)) (.int .i64 (e1.toNat : Int)) (by kernel_rfl) (by kernel_rfl) (by kernel_rfl) (by kernel_rfl) (sayI _ (by have := UInt8.toNat_lt e1; omega)) ?_
   refine At.shift (t := 3) (u := 63) (d := 33) (op := .shl) (x := .tmp 32) (y := .const (.int .u64 24)) (kd := .i64) (kd' := .u64) (a := (e1.toNat : Int)) (b := 24) (shV .shl .i64 (e1.toNat : Int) 24) (by kernel_rfl) (by kernel_rfl) (by kernel_rfl) (by kernel_rfl) (by omega) (shS_shl _ _ _) ?_
   refine At.a 3 ?_
   refine At.sI 36 (4 * (k : Int)) (by omega) ?_
   refine At.a 1 ?_
   refine At.sI 37 ((4 * (k : Int)) + 1) (by omega) ?_
   refine At.iSl 32 38 (.tmp 34) (.tmp 37) false 1 (b.map encU8) .i64 ((4 * (k : Int)) + 1) 5 (by omega) (by simp only [List.length_map]; omega) ?_
   refine Exists.elim (gE b (((4 * (k : Int)) + 1).toNat) (by omega)) fun e2 he2 => ?_
   have hbe2 := UInt8.toNat_lt e2
   refine At.lVp 5 39 (.tmp 38) false 1 (b.map encU8) (((4 * (k : Int)) + 1).toNat) 0 false 1 (encU8 e2) (.int .u8 (e2.toNat : Int)) (mapGet he2) ?_
   refine At.conv (s := 5) (t := 3) (d := 40) (x := .tmp 39) (kd := .u8) (kd' := .i64) (a := (e2.toNat : Int)) (.int .i64 (e2.toNat : Int)) (by kernel_rfl) (by kernel_rfl) (by kernel_rfl) (by kernel_rfl) (sayI _ (by have := UInt8.toNat_lt e2; omega)) ?_
   refine At.shift (t := 3) (u := 63) (d := 41) (op := .shl) (x := .tmp 40) (y := .const (.int .u64 16)) (kd := .i64) (kd' := .u64) (a := (e2.toNat : Int)) (b := 16) (shV .shl .i64 (e2.toNat : Int) 16) (by kernel_rfl) (by kernel_rfl) (by kernel_rfl) (by kernel_rfl) (by omega) (shS_shl _ _ _) ?_
   refine At.bits (t := 3) (u := 3) (d := 42) (op := .or) (x := .tmp 33) (y := .tmp 41) (kd := .i64) (a := shV .shl .i64 (e1.toNat : Int) 24) (b := shV .shl .i64 (e2.toNat : Int) 16) (bitV .or .i64 (shV .shl .i64 (e1.toNat : Int) 24) (shV .shl .i64 (e2.toNat : Int) 16)) (by kernel_rfl) (by kernel_rfl) (by kernel_rfl) (by kernel_rfl) (bitS_or _ _ _) ?_
   refine At.a 3 ?_
   refine At.sI 45 (4 * (k : Int)) (by omega) ?_
   refine At.a 1 ?_
   refine At.sI 46 ((4 * (k : Int)) + 2) (by omega) ?_
   refine At.iSl 32 47 (.tmp 43) (.tmp 46) false 1 (b.map encU8) .i64 ((4 * (k : Int)) + 2) 5 (by omega) (by simp only [List.length_map]; omega) ?_
   refine Exists.elim (gE b (((4 * (k : Int)) + 2).toNat) (by omega)) fun e3 he3 => ?_
   have hbe3 := UInt8.toNat_lt e3
   refine At.lVp 5 48 (.tmp 47) false 1 (b.map encU8) (((4 * (k : Int)) + 2).toNat) 0 false 1 (encU8 e3) (.int .u8 (e3.toNat : Int)) (mapGet he3) ?_
   refine At.conv (s := 5) (t := 3) (d := 49) (x := .tmp 48) (kd := .u8) (kd' := .i64) (a := (e3.toNat : Int)) (.int .i64 (e3.toNat : Int)) (by kernel_rfl) (by kernel_rfl) (by kernel_rfl) (by kernel_rfl) (sayI _ (by have := UInt8.toNat_lt e3; omega)) ?_
   refine At.shift (t := 3) (u := 63) (d := 50) (op := .shl) (x := .tmp 49) (y := .const (.int .u64 8)) (kd := .i64) (kd' := .u64) (a := (e3.toNat : Int)) (b := 8) (shV .shl .i64 (e3.toNat : Int) 8) (by kernel_rfl) (by kernel_rfl) (by kernel_rfl) (by kernel_rfl) (by omega) (shS_shl _ _ _) ?_
   refine At.bits (t := 3) (u := 3) (d := 51) (op := .or) (x := .tmp 42) (y := .tmp 50) (kd := .i64) (a := bitV .or .i64 (shV .shl .i64 (e1.toNat : Int) 24) (shV .shl .i64 (e2.toNat : Int) 16)) (b := shV .shl .i64 (e3.toNat : Int) 8) (bitV .or .i64 (bitV .or .i64 (shV .shl .i64 (e1.toNat : Int) 24) (shV .shl .i64 (e2.toNat : Int) 16)) (shV .shl .i64 (e3.toNat : Int) 8)) (by kernel_rfl) (by kernel_rfl) (by kernel_rfl) (by kernel_rfl) (bitS_or _ _ _) ?_
   refine At.a 3 ?_
   refine At.sI 54 (4 * (k : Int)) (by omega) ?_
   refine At.a 1 ?_
   refine At.sI 55 ((4 * (k : Int)) + 3) (by omega) ?_
   refine At.iSl 32 56 (.tmp 52) (.tmp 55) false 1 (b.map encU8) .i64 ((4 * (k : Int)) + 3) 5 (by omega) (by simp only [List.length_map]; omega) ?_
   refine Exists.elim (gE b (((4 * (k : Int)) + 3).toNat) (by omega)) fun e4 he4 => ?_
   have hbe4 := UInt8.toNat_lt e4
   refine At.lVp 5 57 (.tmp 56) false 1 (b.map encU8) (((4 * (k : Int)) + 3).toNat) 0 false 1 (encU8 e4) (.int .u8 (e4.toNat : Int)) (mapGet he4) ?_
   refine At.conv (s := 5) (t := 3) (d := 58) (x := .tmp 57) (kd := .u8) (kd' := .i64) (a := (e4.toNat : Int)) (.int .i64 (e4.toNat : Int)) (by kernel_rfl) (by kernel_rfl) (by kernel_rfl) (by kernel_rfl) (sayI _ (by have := UInt8.toNat_lt e4; omega)) ?_
   refine At.bits (t := 3) (u := 3) (d := 59) (op := .or) (x := .tmp 51) (y := .tmp 58) (kd := .i64) (a := bitV .or .i64 (bitV .or .i64 (shV .shl .i64 (e1.toNat : Int) 24) (shV .shl .i64 (e2.toNat : Int) 16)) (shV .shl .i64 (e3.toNat : Int) 8)) (b := (e4.toNat : Int)) (wordI b k) (by kernel_rfl) (by kernel_rfl) (by kernel_rfl) (by kernel_rfl) ((bitS_or _ _ _).trans (congrArg some ((orQuad _ _ _ _).trans (word_eq he1 he2 he3 he4)))) ?_
   refine At.ll 60 3 1 160 (0, 6) (([(wordI b k)]).map encI) ?_
   refine At.apK 61 3 1 8 161 121 160 encI l ([(wordI b k)]) (by simp only [List.length_map, List.length_append, List.length_take, List.length_drop, List.length_replicate, List.length_set, List.length_cons, List.length_nil]; omega) ?_
   refine At.zD 1 ?_
   refine AW.g ?_
   refine At.a 2 ?_
   refine At.sI 25 ((k : Int) + 1) (by omega) ?_
   refine At.z 1 ?_
   exact ⟨(k + 1, (l ++ ([(wordI b k)]))), ⟨by omega, by rw [hq, wordsI_succ], by simp [hl]⟩, (by simp only; omega), Sub.o [(161, 121)] [true, true, false, false, false, true, true]⟩
 refine AW.exit ?_
 refine AW.seq ?_
 refine AW.q 1 ?_
 refine AW.block ?_
 refine AW.loopW (fun (x : Nat × List Int) => match x with | (t, l) => Go.Sy.mk [.sl false 1 (h.map encI), .un, .un, .un, .un, .ref 121, .un, .int .i64 (t : Int)] [(121, .arr 3 1 (l.map encI))]) (fun (x : Nat × List Int) => match x with | (t, l) => 16 ≤ t ∧ t ≤ 64 ∧ l.length = t ∧ AllW l ∧ schedI b = extW (64 - t) l) (fun (x : Nat × List Int) => match x with | (t, l) => 64 - t) (16, l) ⟨by omega, by omega, by omega, by rw [hq]; exact wordsI_all _ _, by rw [hq, show k = 16 by omega]; rfl⟩ (Sub.o [(121, 121)] [true, false, false, false, false, true, false, true]) ?_
 rintro ⟨t, l⟩ ⟨ht1, ht2, hl, hqa, hR⟩
 refine AW.seq ?_
 refine AW.q 2 ?_
 refine AW.cD ((t : Int) < 64) (fun h2 => ?_) (fun h2 => ?_)
 · refine AW.skip ?_
   refine AW.seq ?_
   refine AW.block ?_
   refine AW.seq ?_
   refine AW.gD Try_mix ?_
   refine At.a 3 ?_
   refine At.sI 68 ((t : Int) - 15) (by omega) ?_
   refine At.iRf 39 69 (.tmp 66) (.tmp 68) 121 (l.map encI) .i64 ((t : Int) - 15) 3 1 (by omega) (by simp only [List.length_map]; omega) ?_
   refine Exists.elim (gE l (((t : Int) - 15).toNat) (by omega)) fun e5 he5 => ?_
   have hbe5 := hqa _ (List.mem_of_getElem? he5)
   have hsAe5 := sgA_bd hbe5
   have hsBe5 := sgB_bd hbe5
   unfold W32 at hbe5
   unfold W32 sgA at hsAe5
   unfold W32 sgB at hsBe5
   refine At.lEl 3 70 (.tmp 69) 121 3 1 (l.map encI) (((t : Int) - 15).toNat) 0 false 1 (encI e5) (.int .i64 e5) (mapGet he5) ?_
   refine At.c (spec_l2Turn_spec  e5 7 (by omega) (by omega)) Try.call56 true [] [] [] trivial ?_
   refine At.a 3 ?_
   refine At.sI 74 ((t : Int) - 15) (by omega) ?_
   refine At.iRf 39 75 (.tmp 72) (.tmp 74) 121 (l.map encI) .i64 ((t : Int) - 15) 3 1 (by omega) (by simp only [List.length_map]; omega) ?_
   refine At.lEl 3 76 (.tmp 75) 121 3 1 (l.map encI) (((t : Int) - 15).toNat) 0 false 1 (encI e5) (.int .i64 e5) (mapGet he5) ?_
   refine At.c (spec_l2Turn_spec  e5 18 (by omega) (by omega)) Try.call56 true [] [] [] trivial ?_
   refine At.bits (t := 3) (u := 3) (d := 78) (op := .xor) (x := .tmp 71) (y := .tmp 77) (kd := .i64) (a := turnI e5 7) (b := turnI e5 18) (bitV .xor .i64 (turnI e5 7) (turnI e5 18)) (by kernel_rfl) (by kernel_rfl) (by kernel_rfl) (by kernel_rfl) (bitS_xor _ _ _) ?_
   refine At.a 3 ?_
   refine At.sI 81 ((t : Int) - 15) (by omega) ?_
   refine At.iRf 39 82 (.tmp 79) (.tmp 81) 121 (l.map encI) .i64 ((t : Int) - 15) 3 1 (by omega) (by simp only [List.length_map]; omega) ?_
   refine At.lEl 3 83 (.tmp 82) 121 3 1 (l.map encI) (((t : Int) - 15).toNat) 0 false 1 (encI e5) (.int .i64 e5) (mapGet he5) ?_
   refine At.shift (t := 3) (u := 63) (d := 84) (op := .shr) (x := .tmp 83) (y := .const (.int .u64 3)) (kd := .i64) (kd' := .u64) (a := e5) (b := 3) (shV .shr .i64 e5 3) (by kernel_rfl) (by kernel_rfl) (by kernel_rfl) (by kernel_rfl) (by omega) (shS_shr _ _ _) ?_
   refine At.bits (t := 3) (u := 3) (d := 85) (op := .xor) (x := .tmp 78) (y := .tmp 84) (kd := .i64) (a := bitV .xor .i64 (turnI e5 7) (turnI e5 18)) (b := shV .shr .i64 e5 3) (bitV .xor .i64 (bitV .xor .i64 (turnI e5 7) (turnI e5 18)) (shV .shr .i64 e5 3)) (by kernel_rfl) (by kernel_rfl) (by kernel_rfl) (by kernel_rfl) (bitS_xor _ _ _) ?_
   refine At.zD 1 ?_
   refine AW.seq ?_
   refine AW.gD Try_mix ?_
   refine At.a 3 ?_
   refine At.sI 88 ((t : Int) - 2) (by omega) ?_
   refine At.iRf 39 89 (.tmp 86) (.tmp 88) 121 (l.map encI) .i64 ((t : Int) - 2) 3 1 (by omega) (by simp only [List.length_map]; omega) ?_
   refine Exists.elim (gE l (((t : Int) - 2).toNat) (by omega)) fun e6 he6 => ?_
   have hbe6 := hqa _ (List.mem_of_getElem? he6)
   have hsAe6 := sgA_bd hbe6
   have hsBe6 := sgB_bd hbe6
   unfold W32 at hbe6
   unfold W32 sgA at hsAe6
   unfold W32 sgB at hsBe6
   refine At.lEl 3 90 (.tmp 89) 121 3 1 (l.map encI) (((t : Int) - 2).toNat) 0 false 1 (encI e6) (.int .i64 e6) (mapGet he6) ?_
   refine At.c (spec_l2Turn_spec  e6 17 (by omega) (by omega)) Try.call56 true [] [] [] trivial ?_
   refine At.a 3 ?_
   refine At.sI 94 ((t : Int) - 2) (by omega) ?_
   refine At.iRf 39 95 (.tmp 92) (.tmp 94) 121 (l.map encI) .i64 ((t : Int) - 2) 3 1 (by omega) (by simp only [List.length_map]; omega) ?_
   refine At.lEl 3 96 (.tmp 95) 121 3 1 (l.map encI) (((t : Int) - 2).toNat) 0 false 1 (encI e6) (.int .i64 e6) (mapGet he6) ?_
   refine At.c (spec_l2Turn_spec  e6 19 (by omega) (by omega)) Try.call56 true [] [] [] trivial ?_
   refine At.bits (t := 3) (u := 3) (d := 98) (op := .xor) (x := .tmp 91) (y := .tmp 97) (kd := .i64) (a := turnI e6 17) (b := turnI e6 19) (bitV .xor .i64 (turnI e6 17) (turnI e6 19)) (by kernel_rfl) (by kernel_rfl) (by kernel_rfl) (by kernel_rfl) (bitS_xor _ _ _) ?_
   refine At.a 3 ?_
   refine At.sI 101 ((t : Int) - 2) (by omega) ?_
   refine At.iRf 39 102 (.tmp 99) (.tmp 101) 121 (l.map encI) .i64 ((t : Int) - 2) 3 1 (by omega) (by simp only [List.length_map]; omega) ?_
   refine At.lEl 3 103 (.tmp 102) 121 3 1 (l.map encI) (((t : Int) - 2).toNat) 0 false 1 (encI e6) (.int .i64 e6) (mapGet he6) ?_
   refine At.shift (t := 3) (u := 63) (d := 104) (op := .shr) (x := .tmp 103) (y := .const (.int .u64 10)) (kd := .i64) (kd' := .u64) (a := e6) (b := 10) (shV .shr .i64 e6 10) (by kernel_rfl) (by kernel_rfl) (by kernel_rfl) (by kernel_rfl) (by omega) (shS_shr _ _ _) ?_
   refine At.bits (t := 3) (u := 3) (d := 105) (op := .xor) (x := .tmp 98) (y := .tmp 104) (kd := .i64) (a := bitV .xor .i64 (turnI e6 17) (turnI e6 19)) (b := shV .shr .i64 e6 10) (bitV .xor .i64 (bitV .xor .i64 (turnI e6 17) (turnI e6 19)) (shV .shr .i64 e6 10)) (by kernel_rfl) (by kernel_rfl) (by kernel_rfl) (by kernel_rfl) (bitS_xor _ _ _) ?_
   refine At.zD 1 ?_
   refine AW.gD Try_mix ?_
   refine At.a 5 ?_
   refine At.sI 110 ((t : Int) - 7) (by omega) ?_
   refine At.iRf 39 111 (.tmp 108) (.tmp 110) 121 (l.map encI) .i64 ((t : Int) - 7) 3 1 (by omega) (by simp only [List.length_map]; omega) ?_
   refine Exists.elim (gE l (((t : Int) - 7).toNat) (by omega)) fun e7 he7 => ?_
   have hbe7 := hqa _ (List.mem_of_getElem? he7)
   have hsAe7 := sgA_bd hbe7
   have hsBe7 := sgB_bd hbe7
   unfold W32 at hbe7
   unfold W32 sgA at hsAe7
   unfold W32 sgB at hsBe7
   refine At.lEl 3 112 (.tmp 111) 121 3 1 (l.map encI) (((t : Int) - 7).toNat) 0 false 1 (encI e7) (.int .i64 e7) (mapGet he7) ?_
   refine At.a 1 ?_
   refine At.sI 113 ((bitV .xor .i64 (bitV .xor .i64 (turnI e6 17) (turnI e6 19)) (shV .shr .i64 e6 10)) + e7) (by omega) ?_
   refine At.a 2 ?_
   refine At.sI 115 (((bitV .xor .i64 (bitV .xor .i64 (turnI e6 17) (turnI e6 19)) (shV .shr .i64 e6 10)) + e7) + (bitV .xor .i64 (bitV .xor .i64 (turnI e5 7) (turnI e5 18)) (shV .shr .i64 e5 3))) (by omega) ?_
   refine At.a 3 ?_
   refine At.sI 118 ((t : Int) - 16) (by omega) ?_
   refine At.iRf 39 119 (.tmp 116) (.tmp 118) 121 (l.map encI) .i64 ((t : Int) - 16) 3 1 (by omega) (by simp only [List.length_map]; omega) ?_
   refine Exists.elim (gE l (((t : Int) - 16).toNat) (by omega)) fun e8 he8 => ?_
   have hbe8 := hqa _ (List.mem_of_getElem? he8)
   have hsAe8 := sgA_bd hbe8
   have hsBe8 := sgB_bd hbe8
   unfold W32 at hbe8
   unfold W32 sgA at hsAe8
   unfold W32 sgB at hsBe8
   refine At.lEl 3 120 (.tmp 119) 121 3 1 (l.map encI) (((t : Int) - 16).toNat) 0 false 1 (encI e8) (.int .i64 e8) (mapGet he8) ?_
   refine At.a 1 ?_
   refine At.sI 121 ((((bitV .xor .i64 (bitV .xor .i64 (turnI e6 17) (turnI e6 19)) (shV .shr .i64 e6 10)) + e7) + (bitV .xor .i64 (bitV .xor .i64 (turnI e5 7) (turnI e5 18)) (shV .shr .i64 e5 3))) + e8) (by omega) ?_
   refine At.c (spec_l2Low_spec  ((((bitV .xor .i64 (bitV .xor .i64 (turnI e6 17) (turnI e6 19)) (shV .shr .i64 e6 10)) + e7) + (bitV .xor .i64 (bitV .xor .i64 (turnI e5 7) (turnI e5 18)) (shV .shr .i64 e5 3))) + e8) ) Try.call57 true [] [] [] trivial ?_
   refine At.ll 123 3 1 223 (0, 6) (([((((bitV .xor .i64 (bitV .xor .i64 (turnI e6 17) (turnI e6 19)) (shV .shr .i64 e6 10)) + e7) + (bitV .xor .i64 (bitV .xor .i64 (turnI e5 7) (turnI e5 18)) (shV .shr .i64 e5 3))) + e8) % 4294967296]).map encI) ?_
   refine At.append (t := 39) (d := 124) (e := 3) (es := 1) (bytes := 8) (s := .tmp 106) (x := .tmp 123) (S := .ref 121) (T := .ref 223) (xs := (l.map encI)) (ys := (([((((bitV .xor .i64 (bitV .xor .i64 (turnI e6 17) (turnI e6 19)) (shV .shr .i64 e6 10)) + e7) + (bitV .xor .i64 (bitV .xor .i64 (turnI e5 7) (turnI e5 18)) (shV .shr .i64 e5 3))) + e8) % 4294967296]).map encI)) 224 [121] [223] ((l ++ [nxW l]).map encI) (by kernel_rfl) (by kernel_rfl) (by kernel_rfl) (by kernel_rfl) ⟨by kernel_rfl, rfl⟩ ⟨by kernel_rfl, .inr rfl⟩ (by kernel_rfl) (by kernel_rfl) (appW (nx_of2 hl (atI_get (nat_at he5 (by omega))) (atI_get (nat_at he6 (by omega))) (atI_get (nat_at he7 (by omega))) (atI_get (nat_at he8 (by omega))))) (by simp only [List.length_map, List.length_append, List.length_take, List.length_drop, List.length_replicate, List.length_set, List.length_cons, List.length_nil]; omega) (by simp only [List.length_map, List.length_append, List.length_take, List.length_drop, List.length_replicate, List.length_set, List.length_cons, List.length_nil]; omega) ?_
   refine At.zD 1 ?_
   refine AW.g ?_
   refine At.a 2 ?_
   refine At.sI 65 ((t : Int) + 1) (by omega) ?_
   refine At.z 1 ?_
   exact ⟨(t + 1, l ++ [nxW l]), ⟨by omega, by omega, by simp [hl], hqa.snoc (nxW_bd l), by rw [hR, ext_step (by omega)]⟩, (by simp only; omega), Sub.o [(224, 121)] [true, false, false, false, false, true, false, true]⟩
 refine AW.exit ?_
 refine AW.r ?_
 refine At.c (spec_l2Keys_spec   ) Try.call58 true [] [(3500, 0)] [] trivial ?_
 refine At.z 1 ?_
 refine AW.r ?_
 refine At.lit0 (t := 39) (d := 126) (e := 3) (es := 1) (bytes := 8) 226 (by kernel_rfl) (by kernel_rfl) (by kernel_rfl) (by kernel_rfl) ?_
 refine At.a 1 ?_
 refine At.append (t := 39) (d := 128) (e := 3) (es := 1) (bytes := 8) (s := .tmp 126) (x := .tmp 127) (S := .ref 226) (T := .sl false 1 (h.map encI)) (xs := []) (ys := (h.map encI)) 228 [226] [] (([atI h 0, atI h 1, atI h 2, atI h 3, atI h 4, atI h 5, atI h 6, atI h 7]).map encI) (by kernel_rfl) (by kernel_rfl) (by kernel_rfl) (by kernel_rfl) ⟨by kernel_rfl, rfl⟩ ⟨rfl, rfl, (allP_encI _), rfl⟩ (by kernel_rfl) (by kernel_rfl) (by rw [← eight hh]; rfl) (by simp only [List.length_map, List.length_append, List.length_take, List.length_drop, List.length_replicate, List.length_set, List.length_cons, List.length_nil]; omega) (by simp only [List.length_map, List.length_append, List.length_take, List.length_drop, List.length_replicate, List.length_set, List.length_cons, List.length_nil]; omega) ?_
 refine At.z 1 ?_
 refine AW.seq ?_
 refine AW.q 1 ?_
 refine AW.block ?_
 have hls : l = schedI b := by rw [hR, show 64 - t = 0 by omega]; rfl
 have hl64 : l.length = 64 := by omega
 refine AW.loopW (fun (x : Nat × V8) => match x with | (t, v) => Go.Sy.mk [.sl false 1 (h.map encI), .un, .un, .un, .un, .ref 121, .un, .un, .un, .un, .ref 3500, .ref 228, .int .i64 (t : Int)] [(121, .arr 3 1 (l.map encI)), (228, .arr 3 1 (([v.a, v.b, v.c, v.d, v.e, v.f, v.g, v.h]).map encI)), (3500, .arr 3 1 (keysI.map encI))]) (fun (x : Nat × V8) => match x with | (t, v) => t ≤ 64 ∧ v.all ∧ runV keysI l (V8.of h) = runV (keysI.drop t) (l.drop t) v) (fun (x : Nat × V8) => match x with | (t, v) => 64 - t) (0, V8.of h) ⟨by omega, of_all ha, rfl⟩ (Sub.o [(121, 121), (228, 228), (3500, 3500)] [true, false, false, false, false, true, false, false, false, false, true, true, true]) ?_
 rintro ⟨t, v⟩ ⟨ht, hv, hR⟩
 have hC := sgC_bd v.e
 have hD := sgD_bd v.a
 obtain ⟨v1, v2, v3, v4, v5, v6, v7, v8⟩ := id hv
 have hch := ch_bd v5 v6 v7
 have hmj := mj_bd v1 v2 v3
 unfold W32 sgC at hC
 unfold W32 sgD at hD
 unfold W32 chI at hch
 unfold W32 mjI at hmj
 unfold W32 at v1 v2 v3 v4 v5 v6 v7 v8
 refine AW.seq ?_
 refine AW.q 2 ?_
 refine AW.cD ((t : Int) < 64) (fun h3 => ?_) (fun h3 => ?_)
 · refine AW.skip ?_
   refine AW.seq ?_
   refine AW.block ?_
   refine AW.seq ?_
   refine AW.gD Try_mix ?_
   refine At.a 1 ?_
   refine At.iRf 39 134 (.tmp 133) (.const (.int .i64 4)) 228 (([v.a, v.b, v.c, v.d, v.e, v.f, v.g, v.h]).map encI) .i64 4 3 1 (by omega) (by simp only [List.length_map, List.length_append, List.length_take, List.length_drop, List.length_replicate, List.length_set, List.length_cons, List.length_nil]; omega) ?_
   refine At.lEl 3 135 (.tmp 134) 228 3 1 (([v.a, v.b, v.c, v.d, v.e, v.f, v.g, v.h]).map encI) 4 0 false 1 (encI v.e) (.int .i64 v.e) (mapGet (show ([v.a, v.b, v.c, v.d, v.e, v.f, v.g, v.h] : List Int)[4]? = some (v.e) from rfl)) ?_
   refine At.a 1 ?_
   refine At.iRf 39 137 (.tmp 136) (.const (.int .i64 0)) 228 (([v.a, v.b, v.c, v.d, v.e, v.f, v.g, v.h]).map encI) .i64 0 3 1 (by omega) (by simp only [List.length_map, List.length_append, List.length_take, List.length_drop, List.length_replicate, List.length_set, List.length_cons, List.length_nil]; omega) ?_
   refine At.lEl 3 138 (.tmp 137) 228 3 1 (([v.a, v.b, v.c, v.d, v.e, v.f, v.g, v.h]).map encI) 0 0 false 1 (encI v.a) (.int .i64 v.a) (mapGet (show ([v.a, v.b, v.c, v.d, v.e, v.f, v.g, v.h] : List Int)[0]? = some (v.a) from rfl)) ?_
   refine At.zD 2 ?_
   refine AW.seq ?_
   refine AW.gD Try_mix ?_
   refine At.a 2 ?_
   refine At.iRf 39 141 (.tmp 140) (.const (.int .i64 5)) 228 (([v.a, v.b, v.c, v.d, v.e, v.f, v.g, v.h]).map encI) .i64 5 3 1 (by omega) (by simp only [List.length_map, List.length_append, List.length_take, List.length_drop, List.length_replicate, List.length_set, List.length_cons, List.length_nil]; omega) ?_
   refine At.lEl 3 142 (.tmp 141) 228 3 1 (([v.a, v.b, v.c, v.d, v.e, v.f, v.g, v.h]).map encI) 5 0 false 1 (encI v.f) (.int .i64 v.f) (mapGet (show ([v.a, v.b, v.c, v.d, v.e, v.f, v.g, v.h] : List Int)[5]? = some (v.f) from rfl)) ?_
   refine At.bits (t := 3) (u := 3) (d := 143) (op := .and) (x := .tmp 139) (y := .tmp 142) (kd := .i64) (a := v.e) (b := v.f) (bitV .and .i64 v.e v.f) (by kernel_rfl) (by kernel_rfl) (by kernel_rfl) (by kernel_rfl) (bitS_and _ _ _) ?_
   refine At.a 1 ?_
   refine At.bits (t := 3) (u := 3) (d := 145) (op := .xor) (x := .const (.int .i64 4294967295)) (y := .tmp 144) (kd := .i64) (a := 4294967295) (b := v.e) (bitV .xor .i64 4294967295 v.e) (by kernel_rfl) (by kernel_rfl) (by kernel_rfl) (by kernel_rfl) (bitS_xor _ _ _) ?_
   refine At.a 1 ?_
   refine At.iRf 39 147 (.tmp 146) (.const (.int .i64 6)) 228 (([v.a, v.b, v.c, v.d, v.e, v.f, v.g, v.h]).map encI) .i64 6 3 1 (by omega) (by simp only [List.length_map, List.length_append, List.length_take, List.length_drop, List.length_replicate, List.length_set, List.length_cons, List.length_nil]; omega) ?_
   refine At.lEl 3 148 (.tmp 147) 228 3 1 (([v.a, v.b, v.c, v.d, v.e, v.f, v.g, v.h]).map encI) 6 0 false 1 (encI v.g) (.int .i64 v.g) (mapGet (show ([v.a, v.b, v.c, v.d, v.e, v.f, v.g, v.h] : List Int)[6]? = some (v.g) from rfl)) ?_
   refine At.bits (t := 3) (u := 3) (d := 149) (op := .and) (x := .tmp 145) (y := .tmp 148) (kd := .i64) (a := bitV .xor .i64 4294967295 v.e) (b := v.g) (bitV .and .i64 (bitV .xor .i64 4294967295 v.e) v.g) (by kernel_rfl) (by kernel_rfl) (by kernel_rfl) (by kernel_rfl) (bitS_and _ _ _) ?_
   refine At.bits (t := 3) (u := 3) (d := 150) (op := .xor) (x := .tmp 143) (y := .tmp 149) (kd := .i64) (a := bitV .and .i64 v.e v.f) (b := bitV .and .i64 (bitV .xor .i64 4294967295 v.e) v.g) (bitV .xor .i64 (bitV .and .i64 v.e v.f) (bitV .and .i64 (bitV .xor .i64 4294967295 v.e) v.g)) (by kernel_rfl) (by kernel_rfl) (by kernel_rfl) (by kernel_rfl) (bitS_xor _ _ _) ?_
   refine At.zD 1 ?_
   refine AW.seq ?_
   refine AW.gD Try_mix ?_
   refine At.a 1 ?_
   refine At.iRf 39 152 (.tmp 151) (.const (.int .i64 7)) 228 (([v.a, v.b, v.c, v.d, v.e, v.f, v.g, v.h]).map encI) .i64 7 3 1 (by omega) (by simp only [List.length_map, List.length_append, List.length_take, List.length_drop, List.length_replicate, List.length_set, List.length_cons, List.length_nil]; omega) ?_
   refine At.lEl 3 153 (.tmp 152) 228 3 1 (([v.a, v.b, v.c, v.d, v.e, v.f, v.g, v.h]).map encI) 7 0 false 1 (encI v.h) (.int .i64 v.h) (mapGet (show ([v.a, v.b, v.c, v.d, v.e, v.f, v.g, v.h] : List Int)[7]? = some (v.h) from rfl)) ?_
   refine At.a 1 ?_
   refine At.c (spec_l2Turn_spec  v.e 6 (by omega) (by omega)) Try.call56 true [] [] [] trivial ?_
   refine At.a 1 ?_
   refine At.c (spec_l2Turn_spec  v.e 11 (by omega) (by omega)) Try.call56 true [] [] [] trivial ?_
   refine At.bits (t := 3) (u := 3) (d := 158) (op := .xor) (x := .tmp 155) (y := .tmp 157) (kd := .i64) (a := turnI v.e 6) (b := turnI v.e 11) (bitV .xor .i64 (turnI v.e 6) (turnI v.e 11)) (by kernel_rfl) (by kernel_rfl) (by kernel_rfl) (by kernel_rfl) (bitS_xor _ _ _) ?_
   refine At.a 1 ?_
   refine At.c (spec_l2Turn_spec  v.e 25 (by omega) (by omega)) Try.call56 true [] [] [] trivial ?_
   refine At.bits (t := 3) (u := 3) (d := 161) (op := .xor) (x := .tmp 158) (y := .tmp 160) (kd := .i64) (a := bitV .xor .i64 (turnI v.e 6) (turnI v.e 11)) (b := turnI v.e 25) (bitV .xor .i64 (bitV .xor .i64 (turnI v.e 6) (turnI v.e 11)) (turnI v.e 25)) (by kernel_rfl) (by kernel_rfl) (by kernel_rfl) (by kernel_rfl) (bitS_xor _ _ _) ?_
   refine At.a 1 ?_
   refine At.sI 162 (v.h + (bitV .xor .i64 (bitV .xor .i64 (turnI v.e 6) (turnI v.e 11)) (turnI v.e 25))) (by omega) ?_
   refine At.a 2 ?_
   refine At.sI 164 ((v.h + (bitV .xor .i64 (bitV .xor .i64 (turnI v.e 6) (turnI v.e 11)) (turnI v.e 25))) + (bitV .xor .i64 (bitV .and .i64 v.e v.f) (bitV .and .i64 (bitV .xor .i64 4294967295 v.e) v.g))) (by omega) ?_
   refine At.a 2 ?_
   refine At.iRf 39 167 (.tmp 165) (.tmp 166) 3500 (keysI.map encI) .i64 (t : Int) 3 1 (by omega) (by simp only [List.length_map]; omega) ?_
   refine Exists.elim (gE keysI t (by omega)) fun e9 he9 => ?_
   have hbe9 := keysI_bd _ (List.mem_of_getElem? he9)
   unfold W32 at hbe9
   refine At.lEl 3 168 (.tmp 167) 3500 3 1 (keysI.map encI) t 0 false 1 (encI e9) (.int .i64 e9) (mapGet he9) ?_
   refine At.a 1 ?_
   refine At.sI 169 (((v.h + (bitV .xor .i64 (bitV .xor .i64 (turnI v.e 6) (turnI v.e 11)) (turnI v.e 25))) + (bitV .xor .i64 (bitV .and .i64 v.e v.f) (bitV .and .i64 (bitV .xor .i64 4294967295 v.e) v.g))) + e9) (by omega) ?_
   refine At.a 2 ?_
   refine At.iRf 39 172 (.tmp 170) (.tmp 171) 121 (l.map encI) .i64 (t : Int) 3 1 (by omega) (by simp only [List.length_map]; omega) ?_
   refine Exists.elim (gE l t (by omega)) fun e10 he10 => ?_
   have hbe10 := hqa _ (List.mem_of_getElem? he10)
   unfold W32 at hbe10
   refine At.lEl 3 173 (.tmp 172) 121 3 1 (l.map encI) t 0 false 1 (encI e10) (.int .i64 e10) (mapGet he10) ?_
   refine At.a 1 ?_
   refine At.sI 174 ((((v.h + (bitV .xor .i64 (bitV .xor .i64 (turnI v.e 6) (turnI v.e 11)) (turnI v.e 25))) + (bitV .xor .i64 (bitV .and .i64 v.e v.f) (bitV .and .i64 (bitV .xor .i64 4294967295 v.e) v.g))) + e9) + e10) (by omega) ?_
   refine At.c (spec_l2Low_spec  ((((v.h + (bitV .xor .i64 (bitV .xor .i64 (turnI v.e 6) (turnI v.e 11)) (turnI v.e 25))) + (bitV .xor .i64 (bitV .and .i64 v.e v.f) (bitV .and .i64 (bitV .xor .i64 4294967295 v.e) v.g))) + e9) + e10) ) Try.call57 true [] [] [] trivial ?_
   refine At.zD 1 ?_
   refine AW.seq ?_
   refine AW.gD Try_mix ?_
   refine At.a 2 ?_
   refine At.iRf 39 178 (.tmp 177) (.const (.int .i64 1)) 228 (([v.a, v.b, v.c, v.d, v.e, v.f, v.g, v.h]).map encI) .i64 1 3 1 (by omega) (by simp only [List.length_map, List.length_append, List.length_take, List.length_drop, List.length_replicate, List.length_set, List.length_cons, List.length_nil]; omega) ?_
   refine At.lEl 3 179 (.tmp 178) 228 3 1 (([v.a, v.b, v.c, v.d, v.e, v.f, v.g, v.h]).map encI) 1 0 false 1 (encI v.b) (.int .i64 v.b) (mapGet (show ([v.a, v.b, v.c, v.d, v.e, v.f, v.g, v.h] : List Int)[1]? = some (v.b) from rfl)) ?_
   refine At.bits (t := 3) (u := 3) (d := 180) (op := .and) (x := .tmp 176) (y := .tmp 179) (kd := .i64) (a := v.a) (b := v.b) (bitV .and .i64 v.a v.b) (by kernel_rfl) (by kernel_rfl) (by kernel_rfl) (by kernel_rfl) (bitS_and _ _ _) ?_
   refine At.a 2 ?_
   refine At.iRf 39 183 (.tmp 182) (.const (.int .i64 2)) 228 (([v.a, v.b, v.c, v.d, v.e, v.f, v.g, v.h]).map encI) .i64 2 3 1 (by omega) (by simp only [List.length_map, List.length_append, List.length_take, List.length_drop, List.length_replicate, List.length_set, List.length_cons, List.length_nil]; omega) ?_
   refine At.lEl 3 184 (.tmp 183) 228 3 1 (([v.a, v.b, v.c, v.d, v.e, v.f, v.g, v.h]).map encI) 2 0 false 1 (encI v.c) (.int .i64 v.c) (mapGet (show ([v.a, v.b, v.c, v.d, v.e, v.f, v.g, v.h] : List Int)[2]? = some (v.c) from rfl)) ?_
   refine At.bits (t := 3) (u := 3) (d := 185) (op := .and) (x := .tmp 181) (y := .tmp 184) (kd := .i64) (a := v.a) (b := v.c) (bitV .and .i64 v.a v.c) (by kernel_rfl) (by kernel_rfl) (by kernel_rfl) (by kernel_rfl) (bitS_and _ _ _) ?_
   refine At.bits (t := 3) (u := 3) (d := 186) (op := .xor) (x := .tmp 180) (y := .tmp 185) (kd := .i64) (a := bitV .and .i64 v.a v.b) (b := bitV .and .i64 v.a v.c) (bitV .xor .i64 (bitV .and .i64 v.a v.b) (bitV .and .i64 v.a v.c)) (by kernel_rfl) (by kernel_rfl) (by kernel_rfl) (by kernel_rfl) (bitS_xor _ _ _) ?_
   refine At.a 1 ?_
   refine At.iRf 39 188 (.tmp 187) (.const (.int .i64 1)) 228 (([v.a, v.b, v.c, v.d, v.e, v.f, v.g, v.h]).map encI) .i64 1 3 1 (by omega) (by simp only [List.length_map, List.length_append, List.length_take, List.length_drop, List.length_replicate, List.length_set, List.length_cons, List.length_nil]; omega) ?_
   refine At.lEl 3 189 (.tmp 188) 228 3 1 (([v.a, v.b, v.c, v.d, v.e, v.f, v.g, v.h]).map encI) 1 0 false 1 (encI v.b) (.int .i64 v.b) (mapGet (show ([v.a, v.b, v.c, v.d, v.e, v.f, v.g, v.h] : List Int)[1]? = some (v.b) from rfl)) ?_
   refine At.a 1 ?_
   refine At.iRf 39 191 (.tmp 190) (.const (.int .i64 2)) 228 (([v.a, v.b, v.c, v.d, v.e, v.f, v.g, v.h]).map encI) .i64 2 3 1 (by omega) (by simp only [List.length_map, List.length_append, List.length_take, List.length_drop, List.length_replicate, List.length_set, List.length_cons, List.length_nil]; omega) ?_
   refine At.lEl 3 192 (.tmp 191) 228 3 1 (([v.a, v.b, v.c, v.d, v.e, v.f, v.g, v.h]).map encI) 2 0 false 1 (encI v.c) (.int .i64 v.c) (mapGet (show ([v.a, v.b, v.c, v.d, v.e, v.f, v.g, v.h] : List Int)[2]? = some (v.c) from rfl)) ?_
   refine At.bits (t := 3) (u := 3) (d := 193) (op := .and) (x := .tmp 189) (y := .tmp 192) (kd := .i64) (a := v.b) (b := v.c) (bitV .and .i64 v.b v.c) (by kernel_rfl) (by kernel_rfl) (by kernel_rfl) (by kernel_rfl) (bitS_and _ _ _) ?_
   refine At.bits (t := 3) (u := 3) (d := 194) (op := .xor) (x := .tmp 186) (y := .tmp 193) (kd := .i64) (a := bitV .xor .i64 (bitV .and .i64 v.a v.b) (bitV .and .i64 v.a v.c)) (b := bitV .and .i64 v.b v.c) (bitV .xor .i64 (bitV .xor .i64 (bitV .and .i64 v.a v.b) (bitV .and .i64 v.a v.c)) (bitV .and .i64 v.b v.c)) (by kernel_rfl) (by kernel_rfl) (by kernel_rfl) (by kernel_rfl) (bitS_xor _ _ _) ?_
   refine At.zD 1 ?_
   refine AW.r ?_
   refine At.a 1 ?_
   refine At.c (spec_l2Turn_spec  v.a 2 (by omega) (by omega)) Try.call56 true [] [] [] trivial ?_
   refine At.a 1 ?_
   refine At.c (spec_l2Turn_spec  v.a 13 (by omega) (by omega)) Try.call56 true [] [] [] trivial ?_
   refine At.bits (t := 3) (u := 3) (d := 199) (op := .xor) (x := .tmp 196) (y := .tmp 198) (kd := .i64) (a := turnI v.a 2) (b := turnI v.a 13) (bitV .xor .i64 (turnI v.a 2) (turnI v.a 13)) (by kernel_rfl) (by kernel_rfl) (by kernel_rfl) (by kernel_rfl) (bitS_xor _ _ _) ?_
   refine At.a 1 ?_
   refine At.c (spec_l2Turn_spec  v.a 22 (by omega) (by omega)) Try.call56 true [] [] [] trivial ?_
   refine At.bits (t := 3) (u := 3) (d := 202) (op := .xor) (x := .tmp 199) (y := .tmp 201) (kd := .i64) (a := bitV .xor .i64 (turnI v.a 2) (turnI v.a 13)) (b := turnI v.a 22) (bitV .xor .i64 (bitV .xor .i64 (turnI v.a 2) (turnI v.a 13)) (turnI v.a 22)) (by kernel_rfl) (by kernel_rfl) (by kernel_rfl) (by kernel_rfl) (bitS_xor _ _ _) ?_
   refine At.a 2 ?_
   refine At.sI 204 ((bitV .xor .i64 (bitV .xor .i64 (turnI v.a 2) (turnI v.a 13)) (turnI v.a 22)) + (bitV .xor .i64 (bitV .xor .i64 (bitV .and .i64 v.a v.b) (bitV .and .i64 v.a v.c)) (bitV .and .i64 v.b v.c))) (by omega) ?_
   refine At.c (spec_l2Low_spec  ((bitV .xor .i64 (bitV .xor .i64 (turnI v.a 2) (turnI v.a 13)) (turnI v.a 22)) + (bitV .xor .i64 (bitV .xor .i64 (bitV .and .i64 v.a v.b) (bitV .and .i64 v.a v.c)) (bitV .and .i64 v.b v.c))) ) Try.call57 true [] [] [] trivial ?_
   refine At.z 1 ?_
   refine AW.gD Try_mix ?_
   refine At.a 3 ?_
   refine At.sI 208 ((((((v.h + (bitV .xor .i64 (bitV .xor .i64 (turnI v.e 6) (turnI v.e 11)) (turnI v.e 25))) + (bitV .xor .i64 (bitV .and .i64 v.e v.f) (bitV .and .i64 (bitV .xor .i64 4294967295 v.e) v.g))) + e9) + e10) % 4294967296) + (((bitV .xor .i64 (bitV .xor .i64 (turnI v.a 2) (turnI v.a 13)) (turnI v.a 22)) + (bitV .xor .i64 (bitV .xor .i64 (bitV .and .i64 v.a v.b) (bitV .and .i64 v.a v.c)) (bitV .and .i64 v.b v.c))) % 4294967296)) (by omega) ?_
   refine At.c (spec_l2Low_spec  ((((((v.h + (bitV .xor .i64 (bitV .xor .i64 (turnI v.e 6) (turnI v.e 11)) (turnI v.e 25))) + (bitV .xor .i64 (bitV .and .i64 v.e v.f) (bitV .and .i64 (bitV .xor .i64 4294967295 v.e) v.g))) + e9) + e10) % 4294967296) + (((bitV .xor .i64 (bitV .xor .i64 (turnI v.a 2) (turnI v.a 13)) (turnI v.a 22)) + (bitV .xor .i64 (bitV .xor .i64 (bitV .and .i64 v.a v.b) (bitV .and .i64 v.a v.c)) (bitV .and .i64 v.b v.c))) % 4294967296)) ) Try.call57 true [] [] [] trivial ?_
   refine At.a 2 ?_
   refine At.iRf 39 212 (.tmp 211) (.const (.int .i64 1)) 228 (([v.a, v.b, v.c, v.d, v.e, v.f, v.g, v.h]).map encI) .i64 1 3 1 (by omega) (by simp only [List.length_map, List.length_append, List.length_take, List.length_drop, List.length_replicate, List.length_set, List.length_cons, List.length_nil]; omega) ?_
   refine At.lEl 3 213 (.tmp 212) 228 3 1 (([v.a, v.b, v.c, v.d, v.e, v.f, v.g, v.h]).map encI) 1 0 false 1 (encI v.b) (.int .i64 v.b) (mapGet (show ([v.a, v.b, v.c, v.d, v.e, v.f, v.g, v.h] : List Int)[1]? = some (v.b) from rfl)) ?_
   refine At.a 1 ?_
   refine At.iRf 39 215 (.tmp 214) (.const (.int .i64 2)) 228 (([v.a, v.b, v.c, v.d, v.e, v.f, v.g, v.h]).map encI) .i64 2 3 1 (by omega) (by simp only [List.length_map, List.length_append, List.length_take, List.length_drop, List.length_replicate, List.length_set, List.length_cons, List.length_nil]; omega) ?_
   refine At.lEl 3 216 (.tmp 215) 228 3 1 (([v.a, v.b, v.c, v.d, v.e, v.f, v.g, v.h]).map encI) 2 0 false 1 (encI v.c) (.int .i64 v.c) (mapGet (show ([v.a, v.b, v.c, v.d, v.e, v.f, v.g, v.h] : List Int)[2]? = some (v.c) from rfl)) ?_
   refine At.a 1 ?_
   refine At.iRf 39 218 (.tmp 217) (.const (.int .i64 3)) 228 (([v.a, v.b, v.c, v.d, v.e, v.f, v.g, v.h]).map encI) .i64 3 3 1 (by omega) (by simp only [List.length_map, List.length_append, List.length_take, List.length_drop, List.length_replicate, List.length_set, List.length_cons, List.length_nil]; omega) ?_
   refine At.lEl 3 219 (.tmp 218) 228 3 1 (([v.a, v.b, v.c, v.d, v.e, v.f, v.g, v.h]).map encI) 3 0 false 1 (encI v.d) (.int .i64 v.d) (mapGet (show ([v.a, v.b, v.c, v.d, v.e, v.f, v.g, v.h] : List Int)[3]? = some (v.d) from rfl)) ?_
   refine At.a 2 ?_
   refine At.sI 221 (v.d + (((((v.h + (bitV .xor .i64 (bitV .xor .i64 (turnI v.e 6) (turnI v.e 11)) (turnI v.e 25))) + (bitV .xor .i64 (bitV .and .i64 v.e v.f) (bitV .and .i64 (bitV .xor .i64 4294967295 v.e) v.g))) + e9) + e10) % 4294967296)) (by omega) ?_
   refine At.c (spec_l2Low_spec  (v.d + (((((v.h + (bitV .xor .i64 (bitV .xor .i64 (turnI v.e 6) (turnI v.e 11)) (turnI v.e 25))) + (bitV .xor .i64 (bitV .and .i64 v.e v.f) (bitV .and .i64 (bitV .xor .i64 4294967295 v.e) v.g))) + e9) + e10) % 4294967296)) ) Try.call57 true [] [] [] trivial ?_
   refine At.a 2 ?_
   refine At.iRf 39 225 (.tmp 224) (.const (.int .i64 5)) 228 (([v.a, v.b, v.c, v.d, v.e, v.f, v.g, v.h]).map encI) .i64 5 3 1 (by omega) (by simp only [List.length_map, List.length_append, List.length_take, List.length_drop, List.length_replicate, List.length_set, List.length_cons, List.length_nil]; omega) ?_
   refine At.lEl 3 226 (.tmp 225) 228 3 1 (([v.a, v.b, v.c, v.d, v.e, v.f, v.g, v.h]).map encI) 5 0 false 1 (encI v.f) (.int .i64 v.f) (mapGet (show ([v.a, v.b, v.c, v.d, v.e, v.f, v.g, v.h] : List Int)[5]? = some (v.f) from rfl)) ?_
   refine At.a 1 ?_
   refine At.iRf 39 228 (.tmp 227) (.const (.int .i64 6)) 228 (([v.a, v.b, v.c, v.d, v.e, v.f, v.g, v.h]).map encI) .i64 6 3 1 (by omega) (by simp only [List.length_map, List.length_append, List.length_take, List.length_drop, List.length_replicate, List.length_set, List.length_cons, List.length_nil]; omega) ?_
   refine At.lEl 3 229 (.tmp 228) 228 3 1 (([v.a, v.b, v.c, v.d, v.e, v.f, v.g, v.h]).map encI) 6 0 false 1 (encI v.g) (.int .i64 v.g) (mapGet (show ([v.a, v.b, v.c, v.d, v.e, v.f, v.g, v.h] : List Int)[6]? = some (v.g) from rfl)) ?_
   refine At.ll 230 3 1 330 (0, 6) (([((((((v.h + (bitV .xor .i64 (bitV .xor .i64 (turnI v.e 6) (turnI v.e 11)) (turnI v.e 25))) + (bitV .xor .i64 (bitV .and .i64 v.e v.f) (bitV .and .i64 (bitV .xor .i64 4294967295 v.e) v.g))) + e9) + e10) % 4294967296) + (((bitV .xor .i64 (bitV .xor .i64 (turnI v.a 2) (turnI v.a 13)) (turnI v.a 22)) + (bitV .xor .i64 (bitV .xor .i64 (bitV .and .i64 v.a v.b) (bitV .and .i64 v.a v.c)) (bitV .and .i64 v.b v.c))) % 4294967296)) % 4294967296, v.a, v.b, v.c, (v.d + (((((v.h + (bitV .xor .i64 (bitV .xor .i64 (turnI v.e 6) (turnI v.e 11)) (turnI v.e 25))) + (bitV .xor .i64 (bitV .and .i64 v.e v.f) (bitV .and .i64 (bitV .xor .i64 4294967295 v.e) v.g))) + e9) + e10) % 4294967296)) % 4294967296, v.e, v.f, v.g]).map encI) ?_
   refine At.zD 1 ?_
   refine AW.g ?_
   refine At.a 2 ?_
   refine At.sI 132 ((t : Int) + 1) (by omega) ?_
   refine At.z 1 ?_
   exact ⟨(t + 1, (⟨((((((v.h + (bitV .xor .i64 (bitV .xor .i64 (turnI v.e 6) (turnI v.e 11)) (turnI v.e 25))) + (bitV .xor .i64 (bitV .and .i64 v.e v.f) (bitV .and .i64 (bitV .xor .i64 4294967295 v.e) v.g))) + e9) + e10) % 4294967296) + (((bitV .xor .i64 (bitV .xor .i64 (turnI v.a 2) (turnI v.a 13)) (turnI v.a 22)) + (bitV .xor .i64 (bitV .xor .i64 (bitV .and .i64 v.a v.b) (bitV .and .i64 v.a v.c)) (bitV .and .i64 v.b v.c))) % 4294967296)) % 4294967296, v.a, v.b, v.c, (v.d + (((((v.h + (bitV .xor .i64 (bitV .xor .i64 (turnI v.e 6) (turnI v.e 11)) (turnI v.e 25))) + (bitV .xor .i64 (bitV .and .i64 v.e v.f) (bitV .and .i64 (bitV .xor .i64 4294967295 v.e) v.g))) + e9) + e10) % 4294967296)) % 4294967296, v.e, v.f, v.g⟩ : V8)), ⟨by omega, step_all2 hv, step_run2 hR he9 he10⟩, (by simp only; omega), Sub.o [(121, 121), (330, 228), (3500, 3500)] [true, false, false, false, false, true, false, false, false, false, true, true, true]⟩
 refine AW.exit ?_
 refine AW.r ?_
 refine At.lit0 (t := 39) (d := 231) (e := 3) (es := 1) (bytes := 8) 331 (by kernel_rfl) (by kernel_rfl) (by kernel_rfl) (by kernel_rfl) ?_
 refine At.z 1 ?_
 refine AW.seq ?_
 refine AW.q 1 ?_
 refine AW.block ?_
 refine AW.loopW (fun (x : Nat × List Int) => match x with | (i, o) => Go.Sy.mk [.sl false 1 (h.map encI), .un, .un, .un, .un, .un, .un, .un, .un, .un, .un, .ref 228, .un, .un, .un, .un, .un, .un, .un, .ref 331, .int .i64 (i : Int)] [(228, .arr 3 1 (([v.a, v.b, v.c, v.d, v.e, v.f, v.g, v.h]).map encI)), (331, .arr 3 1 (o.map encI))]) (fun (x : Nat × List Int) => match x with | (i, o) => i ≤ 8 ∧ o.length = i ∧ roundI h b = o ++ addL (h.drop i) ([v.a, v.b, v.c, v.d, v.e, v.f, v.g, v.h].drop i)) (fun (x : Nat × List Int) => match x with | (i, o) => 8 - i) (0, []) ⟨by omega, rfl, by rw [List.drop_zero, List.drop_zero]; exact round_of (by rw [← hls, hR, List.drop_of_length_le (l := keysI) (by rw [keysI_len]; omega)]; rfl)⟩ (Sub.o [(228, 228), (331, 331)] [true, false, false, false, false, false, false, false, false, false, false, true, false, false, false, false, false, false, false, true, true]) ?_
 rintro ⟨i, o⟩ ⟨hi, ho, hS⟩
 refine AW.seq ?_
 refine AW.q 2 ?_
 refine AW.cD ((i : Int) < 8) (fun h4 => ?_) (fun h4 => ?_)
 · refine AW.skip ?_
   refine AW.seq ?_
   refine AW.block ?_
   refine AW.gD Try_mix ?_
   refine At.a 3 ?_
   refine At.iSl 39 239 (.tmp 237) (.tmp 238) false 1 (h.map encI) .i64 (i : Int) 3 (by omega) (by simp only [List.length_map]; omega) ?_
   refine Exists.elim (gE h i (by omega)) fun e11 he11 => ?_
   have hbe11 := ha _ (List.mem_of_getElem? he11)
   unfold W32 at hbe11
   refine At.lVp 3 240 (.tmp 239) false 1 (h.map encI) i 0 false 1 (encI e11) (.int .i64 e11) (mapGet he11) ?_
   refine At.a 2 ?_
   refine At.iRf 39 243 (.tmp 241) (.tmp 242) 228 (([v.a, v.b, v.c, v.d, v.e, v.f, v.g, v.h]).map encI) .i64 (i : Int) 3 1 (by omega) (by simp only [List.length_map, List.length_append, List.length_take, List.length_drop, List.length_replicate, List.length_set, List.length_cons, List.length_nil]; omega) ?_
   refine Exists.elim (gE ([v.a, v.b, v.c, v.d, v.e, v.f, v.g, v.h]) i (by simp only [List.length_map, List.length_append, List.length_take, List.length_drop, List.length_replicate, List.length_set, List.length_cons, List.length_nil]; omega)) fun e12 he12 => ?_
   have hbe12 := all_toL hv _ (List.mem_of_getElem? he12)
   unfold W32 at hbe12
   refine At.lEl 3 244 (.tmp 243) 228 3 1 (([v.a, v.b, v.c, v.d, v.e, v.f, v.g, v.h]).map encI) i 0 false 1 (encI e12) (.int .i64 e12) (mapGet he12) ?_
   refine At.a 1 ?_
   refine At.sI 245 (e11 + e12) (by omega) ?_
   refine At.c (spec_l2Low_spec  (e11 + e12) ) Try.call57 true [] [] [] trivial ?_
   refine At.ll 247 3 1 347 (0, 6) (([(e11 + e12) % 4294967296]).map encI) ?_
   refine At.apK 248 3 1 8 348 331 347 encI o ([(e11 + e12) % 4294967296]) (by simp only [List.length_map, List.length_append, List.length_take, List.length_drop, List.length_replicate, List.length_set, List.length_cons, List.length_nil]; omega) ?_
   refine At.zD 1 ?_
   refine AW.g ?_
   refine At.a 2 ?_
   refine At.sI 235 ((i : Int) + 1) (by omega) ?_
   refine At.z 1 ?_
   exact ⟨(i + 1, (o ++ ([(e11 + e12) % 4294967296]))), ⟨by omega, by simp [ho], add_step hS he11 he12⟩, (by simp only; omega), Sub.o [(228, 228), (348, 331)] [true, false, false, false, false, false, false, false, false, false, false, true, false, false, false, false, false, false, false, true, true]⟩
 refine AW.exit ?_
 refine AW.q 2 ?_
 refine AW.ret ?_
 refine ⟨_, Sub.refl _ _, ?_⟩
 refine KF.conv (fun w => .ref 0) (fun w => [.arr 3 1 (w.map encI)]) (show (o) = (roundI h b) from add_end hS (by omega)) ?_
 exact KF.n [(331, 0)]
theorem spec_Sha_spec  (b : List UInt8) (hb : b.length ≤ 1048576) : FnSpec Try.prog 14 [.sl false 1 (b.map encU8)] [] (.ref 0) [.arr 5 1 ((shaB b).map encU8)] := by
 refine FnSpec.of 85 Try.func14 rfl Try.ntmps14 (by simp) (AW.weakK ?_)
 refine AW.q 1 ?_
 refine AW.r ?_
 refine At.lit0 (t := 32) (d := 9) (e := 5) (es := 1) (bytes := 1) 109 (by kernel_rfl) (by kernel_rfl) (by kernel_rfl) (by kernel_rfl) ?_
 refine At.z 1 ?_
 refine AW.seq ?_
 refine AW.r ?_
 refine At.a 2 ?_
 refine At.sL 11 encU8 b ?_
 refine At.z 1 ?_
 refine AW.cD ((b.length : Int) > 4000) (fun h1 => ?_) (fun h1 => ?_)
 · refine AW.q 2 ?_
   refine AW.ret ?_
   refine ⟨_, Sub.refl _ _, ?_⟩
   refine KF.conv (fun w => .ref 0) (fun w => [.arr 5 1 (w.map encU8)]) (show ([]) = (shaB b) from by exact (sha_no (by assumption)).symm) ?_
   exact KF.n [(109, 0)]
 refine AW.skip ?_
 refine AW.r ?_
 refine At.lit0 (t := 32) (d := 14) (e := 5) (es := 1) (bytes := 1) 114 (by kernel_rfl) (by kernel_rfl) (by kernel_rfl) (by kernel_rfl) ?_
 refine At.a 1 ?_
 refine At.append (t := 32) (d := 16) (e := 5) (es := 1) (bytes := 1) (s := .tmp 14) (x := .tmp 15) (S := .ref 114) (T := .sl false 1 (b.map encU8)) (xs := []) (ys := (b.map encU8)) 116 [114] [] (b.map encU8) (by kernel_rfl) (by kernel_rfl) (by kernel_rfl) (by kernel_rfl) ⟨by kernel_rfl, rfl⟩ ⟨rfl, rfl, (allP_encU8 _), rfl⟩ (by kernel_rfl) (by kernel_rfl) (by simp) (by simp only [List.length_map, List.length_append, List.length_take, List.length_drop, List.length_replicate, List.length_set, List.length_cons, List.length_nil]; omega) (by simp only [List.length_map, List.length_append, List.length_take, List.length_drop, List.length_replicate, List.length_set, List.length_cons, List.length_nil]; omega) ?_
 refine At.ll 17 5 1 117 (0, 6) (([(128 : UInt8)]).map encU8) ?_
 refine At.apK 18 5 1 1 118 116 117 encU8 b ([(128 : UInt8)]) (by simp only [List.length_map, List.length_append, List.length_take, List.length_drop, List.length_replicate, List.length_set, List.length_cons, List.length_nil]; omega) ?_
 refine At.z 1 ?_
 refine AW.seq ?_
 refine AW.block ?_
 refine AW.loopW (fun (x : Nat × List UInt8) => match x with | (k, q) => Go.Sy.mk [.sl false 1 (b.map encU8), .un, .un, .ref 109, .ref 118] [(109, .arr 5 1 []), (118, .arr 5 1 (q.map encU8))]) (fun (x : Nat × List UInt8) => match x with | (k, q) => k ≤ padZ b.length ∧ q = b ++ [128] ++ List.replicate k 0) (fun (x : Nat × List UInt8) => match x with | (k, q) => padZ b.length - k) (0, b ++ ([(128 : UInt8)])) ⟨by omega, by simp⟩ (Sub.o [(109, 109), (118, 118)] [true, false, false, true, true]) ?_
 rintro ⟨k, q⟩ ⟨hk, hq⟩
 have hql : q.length = b.length + 1 + k := by rw [hq]; simp; omega
 have hpz := pad_zero (n := b.length)
 refine AW.seq ?_
 refine AW.r ?_
 refine At.a 2 ?_
 refine At.sL 20 encU8 q ?_
 refine At.div (t := 3) (u := 3) (d := 21) (op := .rem) (x := .tmp 20) (y := .const (.int .i64 64)) (kd := .i64) (a := (q.length : Int)) (b := 64) (by kernel_rfl) (by kernel_rfl) (by kernel_rfl) (by kernel_rfl) (by omega) (.int .i64 ((q.length : Int).tmod 64)) (.inr ⟨rfl, rfl⟩) ?_
 refine At.say 21 (.int .i64 ((q.length : Int).tmod 64)) (.int .i64 ((q.length : Int) % 64)) (by kernel_rfl) (sayRem (by omega)) ?_
 refine At.z 1 ?_
 refine AW.cU ((q.length : Int) % 64) (56 : Int) (fun h2 => ?_) (fun h2 => ?_)
 · refine AW.skip ?_
   refine AW.block ?_
   refine AW.g ?_
   refine At.a 1 ?_
   refine At.ll 24 5 1 124 (0, 6) (([(0 : UInt8)]).map encU8) ?_
   refine At.apK 25 5 1 1 125 118 124 encU8 q ([(0 : UInt8)]) (by simp only [List.length_map, List.length_append, List.length_take, List.length_drop, List.length_replicate, List.length_set, List.length_cons, List.length_nil]; omega) ?_
   refine At.z 1 ?_
   exact ⟨(k + 1, (q ++ ([(0 : UInt8)]))), ⟨by have := pad_less hk (by omega); omega, pad_app hq⟩, (by have := pad_less hk (by omega); simp only; omega), Sub.o [(109, 109), (125, 118)] [true, false, false, true, true]⟩
 refine AW.exit ?_
 refine AW.seq ?_
 refine AW.q 1 ?_
 refine AW.block ?_
 have hkz := pad_end hk (by omega)
 refine AW.loopW (fun (x : Int × List UInt8) => match x with | (i, p) => Go.Sy.mk [.sl false 1 (b.map encU8), .un, .un, .ref 109, .ref 118, .int .i64 i] [(109, .arr 5 1 []), (118, .arr 5 1 (p.map encU8))]) (fun (x : Int × List UInt8) => match x with | (i, p) => -1 ≤ i ∧ i ≤ 7 ∧ p = q ++ (lenB b.length).take (7 - i).toNat) (fun (x : Int × List UInt8) => match x with | (i, p) => (i + 1).toNat) (7, q) ⟨by omega, by omega, by simp⟩ (Sub.o [(109, 109), (118, 118)] [true, false, false, true, true, true]) ?_
 rintro ⟨i, p⟩ ⟨hi0, hi1, hp⟩
 have hpl : p.length = q.length + (7 - i).toNat := by rw [hp, List.length_append, List.length_take, lenB_len]; omega
 refine AW.seq ?_
 refine AW.q 2 ?_
 refine AW.cD (i ≥ 0) (fun h3 => ?_) (fun h3 => ?_)
 · refine AW.skip ?_
   refine AW.seq ?_
   refine AW.block ?_
   refine AW.g ?_
   refine At.a 3 ?_
   refine At.sL 32 encU8 b ?_
   refine At.a 1 ?_
   refine At.sI 33 (8 * (b.length : Int)) (by omega) ?_
   refine At.a 2 ?_
   refine At.sI 35 (8 * i) (by omega) ?_
   refine At.shift (t := 3) (u := 3) (d := 36) (op := .shr) (x := .tmp 33) (y := .tmp 35) (kd := .i64) (kd' := .i64) (a := 8 * (b.length : Int)) (b := 8 * i) (shV .shr .i64 (8 * (b.length : Int)) (8 * i)) (by kernel_rfl) (by kernel_rfl) (by kernel_rfl) (by kernel_rfl) (by omega) (shS_shr _ _ _) ?_
   refine At.conv (s := 3) (t := 5) (d := 37) (x := .tmp 36) (kd := .i64) (kd' := .u8) (a := shV .shr .i64 (8 * (b.length : Int)) (8 * i)) (.int .u8 ((u8Of (shV .shr .i64 (8 * (b.length : Int)) (8 * i))).toNat : Int)) (by kernel_rfl) (by kernel_rfl) (by kernel_rfl) (by kernel_rfl) (sayByte _) ?_
   refine At.ll 38 5 1 138 (0, 6) (([(u8Of (shV .shr .i64 (8 * (b.length : Int)) (8 * i)))]).map encU8) ?_
   refine At.apK 39 5 1 1 139 118 138 encU8 p ([(u8Of (shV .shr .i64 (8 * (b.length : Int)) (8 * i)))]) (by simp only [List.length_map, List.length_append, List.length_take, List.length_drop, List.length_replicate, List.length_set, List.length_cons, List.length_nil]; omega) ?_
   refine At.z 1 ?_
   refine AW.g ?_
   refine At.a 2 ?_
   refine At.sI 29 (i - 1) (by omega) ?_
   refine At.z 1 ?_
   exact ⟨((i - 1), (p ++ ([(u8Of (shV .shr .i64 (8 * (b.length : Int)) (8 * i)))]))), ⟨by omega, by omega, lenB_int (by omega) hi1 hp⟩, (by simp only; omega), Sub.o [(109, 109), (139, 118)] [true, false, false, true, true, true]⟩
 refine AW.exit ?_
 refine AW.r ?_
 refine At.ll 40 3 1 140 (0, 6) (([1779033703, 3144134277, 1013904242, 2773480762, 1359893119, 2600822924, 528734635, 1541459225]).map encI) ?_
 refine At.z 1 ?_
 refine AW.seq ?_
 refine AW.q 1 ?_
 refine AW.block ?_
 have hpd := pad_done hq hkz hp (by omega) hi0
 have hpm : p.length % 64 = 0 := by rw [hpd]; exact (padI_len b).1
 refine AW.loopW (fun (x : Int × List Int) => match x with | (i, h) => Go.Sy.mk [.un, .un, .un, .ref 109, .ref 118, .un, .ref 140, .int .i64 i] [(109, .arr 5 1 []), (118, .arr 5 1 (p.map encU8)), (140, .arr 3 1 (h.map encI))]) (fun (x : Int × List Int) => match x with | (i, h) => 0 ≤ i ∧ i ≤ p.length ∧ i % 64 = 0 ∧ h.length = 8 ∧ AllW h ∧ blocksI ((padI b).length / 64) firstI (padI b) = blocksI ((p.drop i.toNat).length / 64) h (p.drop i.toNat)) (fun (x : Int × List Int) => match x with | (i, h) => ((p.length : Int) - i).toNat) (0, firstI) ⟨by omega, by omega, by omega, rfl, firstI_all, by rw [hpd]; rfl⟩ (Sub.o [(109, 109), (118, 118), (140, 140)] [false, false, false, true, true, false, true, true]) ?_
 rintro ⟨i, h⟩ ⟨hi0, hi1, hi2, hh, ha, hR⟩
 refine AW.seq ?_
 refine AW.r ?_
 refine At.a 3 ?_
 refine At.sL 43 encU8 p ?_
 refine At.z 1 ?_
 refine AW.cD (i < (p.length : Int)) (fun h4 => ?_) (fun h4 => ?_)
 · refine AW.skip ?_
   refine AW.seq ?_
   refine AW.block ?_
   refine AW.g ?_
   refine At.a 5 ?_
   refine At.sI 51 (i + 64) (by omega) ?_
   refine At.sliceRef (t := 32) (d := 52) (e := 5) (es := 1) (i := 118) (x := .tmp 48) (lx := some (.tmp 49)) (hx := some (.tmp 51)) (xs := (p.map encU8)) (vl := .int .i64 i) (vh := .int .i64 (i + 64)) ((i).toNat) ((i + 64).toNat) (by kernel_rfl) (by kernel_rfl) (by kernel_rfl) (by kernel_rfl) (by kernel_rfl) (.inr ⟨_, _, rfl, sayNat (by omega)⟩) (.inr ⟨_, _, rfl, sayNat (by omega)⟩) (by omega) (by simp only [List.length_map]; omega) ?_
   refine At.call (spec_l2Block_spec  h ((p.drop ((i).toNat)).take (((i + 64).toNat) - ((i).toNat))) hh ha (by rw [List.length_take, List.length_drop]; omega)) Try.call34 false [] [(2060, 0)] [(140, 1, (h.map encI)), (118, 1, (p.map encU8))] (by kernel_rfl) (by kernel_rfl) (Eq.trans (b := [.sl false 1 (h.map encI), .sl false 1 (((p.map encU8).drop ((i).toNat)).take (((i + 64).toNat) - ((i).toNat)))]) (by kernel_rfl) (by simp only [List.map_take, List.map_drop])) (by kernel_rfl) (by kernel_rfl) ⟨rfl, ⟨3, (h.map encI), by kernel_rfl, FrzIs.same (allP_encI _)⟩, rfl, ⟨5, (p.map encU8), by kernel_rfl, FrzIs.same (allP_encU8 _)⟩, trivial⟩ ?_
   refine At.z 1 ?_
   refine AW.g ?_
   refine At.a 2 ?_
   refine At.sI 46 (i + 64) (by omega) ?_
   refine At.z 1 ?_
   exact ⟨((i + 64), (roundI h ((p.drop ((i).toNat)).take (((i + 64).toNat) - ((i).toNat))))), ⟨by omega, by omega, by omega, round_len _ _ hh, round_all _ _, blk_int hR hi0 hpm hi2 (by omega)⟩, (by simp only; omega), Sub.o [(109, 109), (118, 118), (2060, 140)] [false, false, false, true, true, false, true, true]⟩
 refine AW.exit ?_
 refine AW.seq ?_
 refine AW.q 1 ?_
 refine AW.block ?_
 refine AW.loopW (fun (x : Nat × List UInt8) => match x with | (k, o) => Go.Sy.mk [.un, .un, .un, .ref 109, .un, .un, .ref 140, .un, .int .i64 (k : Int)] [(109, .arr 5 1 (o.map encU8)), (140, .arr 3 1 (h.map encI))]) (fun (x : Nat × List UInt8) => match x with | (k, o) => k ≤ 8 ∧ o.length ≤ 4 * k ∧ outB h = o ++ outB (h.drop k)) (fun (x : Nat × List UInt8) => match x with | (k, o) => 8 - k) (0, []) ⟨by omega, by simp, rfl⟩ (Sub.o [(109, 109), (140, 140)] [false, false, false, true, false, false, true, false, true]) ?_
 rintro ⟨k, o⟩ ⟨hk2, ho, hS⟩
 refine AW.seq ?_
 refine AW.q 2 ?_
 refine AW.cD ((k : Int) < 8) (fun h5 => ?_) (fun h5 => ?_)
 · refine AW.skip ?_
   refine AW.seq ?_
   refine AW.block ?_
   refine AW.gD Try_mix ?_
   refine At.a 3 ?_
   refine At.iRf 39 61 (.tmp 59) (.tmp 60) 140 (h.map encI) .i64 (k : Int) 3 1 (by omega) (by simp only [List.length_map]; omega) ?_
   refine Exists.elim (gE h k (by omega)) fun e1 he1 => ?_
   refine At.lEl 3 62 (.tmp 61) 140 3 1 (h.map encI) k 0 false 1 (encI e1) (.int .i64 e1) (mapGet he1) ?_
   refine At.shift (t := 3) (u := 63) (d := 63) (op := .shr) (x := .tmp 62) (y := .const (.int .u64 24)) (kd := .i64) (kd' := .u64) (a := e1) (b := 24) (shV .shr .i64 e1 24) (by kernel_rfl) (by kernel_rfl) (by kernel_rfl) (by kernel_rfl) (by omega) (shS_shr _ _ _) ?_
   refine At.conv (s := 3) (t := 5) (d := 64) (x := .tmp 63) (kd := .i64) (kd' := .u8) (a := shV .shr .i64 e1 24) (.int .u8 ((u8Of (shV .shr .i64 e1 24)).toNat : Int)) (by kernel_rfl) (by kernel_rfl) (by kernel_rfl) (by kernel_rfl) (sayByte _) ?_
   refine At.a 2 ?_
   refine At.iRf 39 67 (.tmp 65) (.tmp 66) 140 (h.map encI) .i64 (k : Int) 3 1 (by omega) (by simp only [List.length_map]; omega) ?_
   refine At.lEl 3 68 (.tmp 67) 140 3 1 (h.map encI) k 0 false 1 (encI e1) (.int .i64 e1) (mapGet he1) ?_
   refine At.shift (t := 3) (u := 63) (d := 69) (op := .shr) (x := .tmp 68) (y := .const (.int .u64 16)) (kd := .i64) (kd' := .u64) (a := e1) (b := 16) (shV .shr .i64 e1 16) (by kernel_rfl) (by kernel_rfl) (by kernel_rfl) (by kernel_rfl) (by omega) (shS_shr _ _ _) ?_
   refine At.conv (s := 3) (t := 5) (d := 70) (x := .tmp 69) (kd := .i64) (kd' := .u8) (a := shV .shr .i64 e1 16) (.int .u8 ((u8Of (shV .shr .i64 e1 16)).toNat : Int)) (by kernel_rfl) (by kernel_rfl) (by kernel_rfl) (by kernel_rfl) (sayByte _) ?_
   refine At.a 2 ?_
   refine At.iRf 39 73 (.tmp 71) (.tmp 72) 140 (h.map encI) .i64 (k : Int) 3 1 (by omega) (by simp only [List.length_map]; omega) ?_
   refine At.lEl 3 74 (.tmp 73) 140 3 1 (h.map encI) k 0 false 1 (encI e1) (.int .i64 e1) (mapGet he1) ?_
   refine At.shift (t := 3) (u := 63) (d := 75) (op := .shr) (x := .tmp 74) (y := .const (.int .u64 8)) (kd := .i64) (kd' := .u64) (a := e1) (b := 8) (shV .shr .i64 e1 8) (by kernel_rfl) (by kernel_rfl) (by kernel_rfl) (by kernel_rfl) (by omega) (shS_shr _ _ _) ?_
   refine At.conv (s := 3) (t := 5) (d := 76) (x := .tmp 75) (kd := .i64) (kd' := .u8) (a := shV .shr .i64 e1 8) (.int .u8 ((u8Of (shV .shr .i64 e1 8)).toNat : Int)) (by kernel_rfl) (by kernel_rfl) (by kernel_rfl) (by kernel_rfl) (sayByte _) ?_
   refine At.a 2 ?_
   refine At.iRf 39 79 (.tmp 77) (.tmp 78) 140 (h.map encI) .i64 (k : Int) 3 1 (by omega) (by simp only [List.length_map]; omega) ?_
   refine At.lEl 3 80 (.tmp 79) 140 3 1 (h.map encI) k 0 false 1 (encI e1) (.int .i64 e1) (mapGet he1) ?_
   refine At.conv (s := 3) (t := 5) (d := 81) (x := .tmp 80) (kd := .i64) (kd' := .u8) (a := e1) (.int .u8 ((u8Of e1).toNat : Int)) (by kernel_rfl) (by kernel_rfl) (by kernel_rfl) (by kernel_rfl) (sayByte _) ?_
   refine At.ll 82 5 1 182 (0, 6) (([(u8Of (shV .shr .i64 e1 24)), (u8Of (shV .shr .i64 e1 16)), (u8Of (shV .shr .i64 e1 8)), (u8Of e1)]).map encU8) ?_
   refine At.apK 83 5 1 1 183 109 182 encU8 o ([(u8Of (shV .shr .i64 e1 24)), (u8Of (shV .shr .i64 e1 16)), (u8Of (shV .shr .i64 e1 8)), (u8Of e1)]) (by simp only [List.length_map, List.length_append, List.length_take, List.length_drop, List.length_replicate, List.length_set, List.length_cons, List.length_nil]; omega) ?_
   refine At.zD 1 ?_
   refine AW.g ?_
   refine At.a 2 ?_
   refine At.sI 57 ((k : Int) + 1) (by omega) ?_
   refine At.z 1 ?_
   exact ⟨(k + 1, (o ++ ([(u8Of (shV .shr .i64 e1 24)), (u8Of (shV .shr .i64 e1 16)), (u8Of (shV .shr .i64 e1 8)), (u8Of e1)]))), ⟨by omega, by simp only [List.length_append, List.length_cons, List.length_nil]; omega, out_step hS he1⟩, (by simp only; omega), Sub.o [(183, 109), (140, 140)] [false, false, false, true, false, false, true, false, true]⟩
 refine AW.exit ?_
 refine AW.q 2 ?_
 refine AW.ret ?_
 refine ⟨_, Sub.refl _ _, ?_⟩
 refine KF.conv (fun w => .ref 0) (fun w => [.arr 5 1 (w.map encU8)]) (show (o) = (shaB b) from by rw [sha_of (by assumption), blk_same hR (by omega)]; exact out_end hS (by omega)) ?_
 exact KF.n [(109, 0)]
theorem impl_within_spec  (n : Int) (low : Int) (high : Int) : FnSpec Try.prog 37 [.int .i64 n, .int .i64 low, .int .i64 high] [] (.bool (inR n low high)) [] := by
 refine FnSpec.of 15 Try.func37 rfl Try.ntmps37 (by simp) (AW.weakK ?_)
 refine AW.q 1 ?_
 refine AW.r ?_
 refine At.a 4 ?_
 by_cases h1 : n ≥ low
 · refine At.sB 10 _ _ (sayT h1) ?_
   refine At.z 5 ?_
   refine AW.ret ?_
   refine ⟨_, Sub.refl _ _, ?_⟩
   refine KF.conv (fun w => .bool w) (fun w => []) (show (decide (n ≤ high)) = (inR n low high) from by simp [inR, *]) ?_
   exact KF.n []
 refine At.sB 10 _ _ (sayF h1) ?_
 refine At.z 5 ?_
 refine AW.ret ?_
 refine ⟨_, Sub.refl _ _, ?_⟩
 refine KF.conv (fun w => .bool w) (fun w => []) (show (false) = (inR n low high) from by simp [inR, *]) ?_
 exact KF.n []
theorem impl_isSize_spec  (n : Int) : FnSpec Try.prog 35 [.int .i64 n] [] (.bool (inR n 0 1000)) [] := by
 refine FnSpec.of 5 Try.func35 rfl Try.ntmps35 (by simp) (AW.weakK ?_)
 refine AW.q 1 ?_
 refine AW.r ?_
 refine At.a 1 ?_
 refine At.c (impl_within_spec  n 0 1000 ) Try.call37 true [] [] [] trivial ?_
 refine At.z 1 ?_
 exact AW.ret (rf (KF.n []))
theorem impl_PartsOf_spec  (n : Int) : FnSpec Try.prog 15 [.int .i64 n] [] (.int .i64 (partsN n)) [] := by
 refine FnSpec.of 10 Try.func15 rfl Try.ntmps15 (by simp) (AW.weakK ?_)
 refine AW.q 1 ?_
 refine AW.seq ?_
 refine AW.r ?_
 refine At.a 1 ?_
 refine At.c (impl_isSize_spec  n ) Try.call35 true [] [] [] trivial ?_
 refine At.z 1 ?_
 refine AW.cNB (inR n 0 1000) (fun h1 => ?_) (fun h1 => ?_)
 · refine AW.q 1 ?_
   refine AW.ret ?_
   refine ⟨_, Sub.refl _ _, ?_⟩
   refine KF.conv (fun w => .int .i64 w) (fun w => []) (show (-1) = (partsN n) from by rw [partsN_no (by assumption)]) ?_
   exact KF.n []
 have h1i := inR_iff.1 h1
 have hni := inR_iff.1 h1
 refine AW.skip ?_
 refine AW.r ?_
 refine At.a 2 ?_
 refine At.sI 7 (n + 16) (by omega) ?_
 refine At.a 1 ?_
 refine At.sJ 8 ((n + 16) - 1) (n + 15) (by omega) (by omega) ?_
 refine At.div (t := 3) (u := 3) (d := 9) (op := .quo) (x := .tmp 8) (y := .const (.int .i64 16)) (kd := .i64) (a := n + 15) (b := 16) (by kernel_rfl) (by kernel_rfl) (by kernel_rfl) (by kernel_rfl) (by omega) (.int .i64 (IntKind.i64.wrap ((n + 15).tdiv 16))) (.inl ⟨rfl, rfl⟩) ?_
 refine At.say 9 (.int .i64 (IntKind.i64.wrap ((n + 15).tdiv 16))) (.int .i64 ((n + 15) / 16)) (by kernel_rfl) (sayQuo (by omega) (by omega) (by omega)) ?_
 refine At.z 1 ?_
 refine AW.ret ?_
 refine ⟨_, Sub.refl _ _, ?_⟩
 refine KF.conv (fun w => .int .i64 w) (fun w => []) (show ((n + 15) / 16) = (partsN n) from by rw [(partsN_of (by assumption)).2.2]) ?_
 exact KF.n []
theorem impl_partLong_spec  (n : Int) (i : Int) (hn : 0 ≤ n ∧ n ≤ 1000) (hi : 0 ≤ i ∧ i ≤ 1000) : FnSpec Try.prog 38 [.int .i64 n, .int .i64 i] [] (.int .i64 (longI n i)) [] := by
 refine FnSpec.of 10 Try.func38 rfl Try.ntmps38 (by simp) (AW.weakK ?_)
 refine AW.q 1 ?_
 refine AW.r ?_
 refine At.a 3 ?_
 refine At.sI 7 (i * 16) (by omega) ?_
 refine At.a 1 ?_
 refine At.sI 8 (n - (i * 16)) (by omega) ?_
 refine At.mm (d := 9) (b := .min) (x := .const (.int .i64 16)) (y := .tmp 8) (ats := #[3, 3]) (q := .i64) (m := 16) (n := n - (i * 16)) (if (n - (i * 16)) < 16 then n - (i * 16) else 16) (by kernel_rfl) (by kernel_rfl) (by kernel_rfl) (by kernel_rfl) (.inl ⟨rfl, rfl⟩) ?_
 refine At.say 9 (.int .i64 (if (n - (i * 16)) < 16 then n - (i * 16) else 16)) (.int .i64 (min 16 (n - (i * 16)))) (by kernel_rfl) (congrArg (V.int .i64) (by omega)) ?_
 refine At.z 1 ?_
 refine AW.ret ?_
 refine ⟨_, Sub.refl _ _, ?_⟩
 refine KF.conv (fun w => .int .i64 w) (fun w => []) (show (min 16 (n - (i * 16))) = (longI n i) from by rfl) ?_
 exact KF.n []
theorem impl_ParcelOk_spec  (p : Prc) (hp : SmallP p) : FnSpec Try.prog 25 [.agg [.int .i64 p.size, .str p.digest, .sl false 1 (p.parts.map encS)]] [] (.bool (prcOk p)) [] := by
 obtain ⟨p1, p2, p3⟩ := id hp
 refine FnSpec.of 44 Try.func25 rfl Try.ntmps25 (by simp) (AW.weakK ?_)
 refine AW.q 2 ?_
 refine AW.seq ?_
 refine AW.seq ?_
 refine AW.gD Try_mix ?_
 refine At.a 2 ?_
 refine At.c (impl_isSize_spec  p.size ) Try.call35 true [] [] [] trivial ?_
 refine At.a 2 ?_
 by_cases h1 : (inR p.size 0 1000) = true
 · refine At.sB 9 (!(inR p.size 0 1000)) false (sayNF (sayB h1)) ?_
   have h1i := inR_iff.1 h1
   have hni := inR_iff.1 h1
   have hpo := partsN_of h1
   refine At.a 6 ?_
   by_cases h2 : (p.digest.size : Int) = 32
   · refine At.sB 15 _ _ (sayUF h2) ?_
     refine At.a 3 ?_
     refine At.sL 18 encS p.parts ?_
     refine At.a 2 ?_
     refine At.c (impl_PartsOf_spec  p.size ) Try.call15 true [] [] [] trivial ?_
     refine At.zD 2 ?_
     refine AW.cU (p.parts.length : Int) (partsN p.size) (fun h3 => ?_) (fun h3 => ?_)
     · refine AW.q 1 ?_
       refine AW.ret ?_
       refine ⟨_, Sub.refl _ _, ?_⟩
       refine KF.conv (fun w => .bool w) (fun w => []) (show (false) = (prcOk p) from by exact (prcOk_no (by simp_all)).symm) ?_
       exact KF.n []
     refine AW.skip ?_
     refine AW.seq ?_
     refine AW.r ?_
     refine At.a 3 ?_
     refine At.sL 26 encS p.parts ?_
     refine At.z 1 ?_
     refine AW.block ?_
     refine AW.loopW (fun (k : Nat) => Go.Sy.mk [.un, .ptr 101 0 0, .un, .un, .un, .un, .un, .un, .un, .un, .un, .un, .un, .un, .un, .un, .un, .un, .un, .un, .un, .un, .un, .un, .un, .sl false 1 (p.parts.map encS), .int .i64 (p.parts.length : Int), .int .i64 (k : Int)] [(101, .box 28 [.int .i64 p.size, .str p.digest, .sl false 1 (p.parts.map encS)])]) (fun (k : Nat) => k ≤ p.parts.length ∧ okGo p.size 0 p.parts = okGo p.size k (p.parts.drop k)) (fun (k : Nat) => p.parts.length - k) 0 ⟨by omega, by rw [List.drop_zero]⟩ (Sub.o [(101, 101)] [false, true, false, false, false, false, false, false, false, false, false, false, false, false, false, false, false, false, false, false, false, false, false, false, false, true, true, true]) ?_
     rintro k ⟨hk, hR⟩
     refine AW.q 1 ?_
     refine AW.seq ?_
     refine AW.cD ((k : Int) < (p.parts.length : Int)) (fun h4 => ?_) (fun h4 => ?_)
     · refine AW.skip ?_
       refine AW.seq ?_
       refine AW.block ?_
       refine AW.r ?_
       refine At.a 1 ?_
       refine At.iSl 22 30 (.tmp 25) (.tmp 27) false 1 (p.parts.map encS) .i64 (k : Int) 9 (by omega) (by simp only [List.length_map]; omega) ?_
       refine Exists.elim (gE p.parts k (by omega)) fun e1 he1 => ?_
       refine At.lVp 9 31 (.tmp 30) false 1 (p.parts.map encS) k 0 false 1 (encS e1) (.str e1) (mapGet he1) ?_
       refine At.z 2 ?_
       refine AW.r ?_
       refine At.a 3 ?_
       by_cases h5 : e1.toList = (⟨#[]⟩ : ByteArray).toList
       · refine At.sB 34 (!(e1.toList == (⟨#[]⟩ : ByteArray).toList)) false (sayNF (sayET h5)) ?_
         refine At.z 8 ?_
         refine AW.cond false (by kernel_rfl) (fun h => by cases h) (fun _ => ?_)
         refine AW.skip ?_
         refine AW.g ?_
         refine At.a 1 ?_
         refine At.sI 43 ((k : Int) + 1) (by omega) ?_
         refine At.z 1 ?_
         exact ⟨k + 1, ⟨by omega, by rw [hR]; exact okGo_step he1 (by left; exact emp_iff.1 (by assumption))⟩, (by omega), Sub.o [(101, 101)] [false, true, false, false, false, false, false, false, false, false, false, false, false, false, false, false, false, false, false, false, false, false, false, false, false, true, true, true]⟩
       refine At.sB 34 (!(e1.toList == (⟨#[]⟩ : ByteArray).toList)) true (sayNT (sayEF h5)) ?_
       refine At.a 5 ?_
       refine At.c (impl_partLong_spec  p.size (k : Int) (by omega) (by omega)) Try.call38 true [] [] [] trivial ?_
       refine At.z 2 ?_
       refine AW.cU (e1.size : Int) (longI p.size (k : Int)) (fun h6 => ?_) (fun h6 => ?_)
       · refine AW.q 1 ?_
         refine AW.ret ?_
         refine ⟨_, Sub.refl _ _, ?_⟩
         refine KF.conv (fun w => .bool w) (fun w => []) (show (false) = (prcOk p) from by exact (prc_bad hR (okGo_bad he1 (by first | omega | (rw [← emp_iff]; assumption)) (by omega))).symm) ?_
         exact KF.n []
       refine AW.skip ?_
       refine AW.g ?_
       refine At.a 1 ?_
       refine At.sI 43 ((k : Int) + 1) (by omega) ?_
       refine At.z 1 ?_
       exact ⟨k + 1, ⟨by omega, by rw [hR]; exact okGo_step he1 (by right; omega)⟩, (by omega), Sub.o [(101, 101)] [false, true, false, false, false, false, false, false, false, false, false, false, false, false, false, false, false, false, false, false, false, false, false, false, false, true, true, true]⟩
     refine AW.exit ?_
     refine AW.q 1 ?_
     refine AW.ret ?_
     refine ⟨_, Sub.refl _ _, ?_⟩
     refine KF.conv (fun w => .bool w) (fun w => []) (show (true) = (prcOk p) from by exact (prc_good hR (by omega) (by assumption) (by omega) (by omega)).symm) ?_
     exact KF.n []
   refine At.sB 15 _ _ (sayUT h2) ?_
   refine At.zD 8 ?_
   refine AW.cond true (by kernel_rfl) (fun _ => ?_) (fun h => by cases h)
   refine AW.q 1 ?_
   refine AW.ret ?_
   refine ⟨_, Sub.refl _ _, ?_⟩
   refine KF.conv (fun w => .bool w) (fun w => []) (show (false) = (prcOk p) from by exact (prcOk_no (by simp_all)).symm) ?_
   exact KF.n []
 refine At.sB 9 (!(inR p.size 0 1000)) true (sayNT (sayB (Bool.eq_false_iff.2 h1))) ?_
 replace h1 := Bool.eq_false_iff.2 h1
 refine At.zD 14 ?_
 refine AW.cond true (by kernel_rfl) (fun _ => ?_) (fun h => by cases h)
 refine AW.q 1 ?_
 refine AW.ret ?_
 refine ⟨_, Sub.refl _ _, ?_⟩
 refine KF.conv (fun w => .bool w) (fun w => []) (show (false) = (prcOk p) from by exact (prcOk_no (by simp_all)).symm) ?_
 exact KF.n []
def K_impl_ParcelNew (rs : List ResultVar) (n : Int) (d : ByteArray) (w0_ : Prc) (w1_ : Bool) : Exit → Sg → Prop := KF Try.prog 0 rs (.tup [.agg [.int .i64 w0_.size, .str w0_.digest, .ref 0], .bool w1_]) [.arr 9 1 (w0_.parts.map encS)]
theorem impl_ParcelNew_spec  (n : Int) (d : ByteArray) (hn : 0 ≤ n ∧ n ≤ 1000) (hd : d.size ≤ 1048576) : FnSpec Try.prog 13 [.int .i64 n, .str d] [] (.tup [.agg [.int .i64 (((newP n d).1).size), .str (((newP n d).1).digest), .ref 0], .bool ((newP n d).2)]) [.arr 9 1 ((((newP n d).1).parts).map encS)] := by
 refine FnSpec.of 19 Try.func13 rfl Try.ntmps13 (by simp) (AW.weakK ?_)
 refine AW.q 2 ?_
 refine AW.seq ?_
 refine AW.weak (Sub.nils [⟨true, 104, some 2, 5001, 9, 1⟩] (by kernel_rfl)) ?_
 refine AW.g ?_
 refine At.a 3 ?_
 refine At.c (impl_PartsOf_spec  n ) Try.call15 true [] [] [] trivial ?_
 have hpo := partsN_of (inR_iff.2 hn)
 have hcz := catS_empty n
 have hel : (emptyN n).length = (max (partsN n) 0).toNat := List.length_replicate
 refine At.mm (d := 11) (b := .max) (x := .tmp 10) (y := .const (.int .i64 0)) (ats := #[3, 3]) (q := .i64) (m := partsN n) (n := 0) (if 0 > (partsN n) then 0 else partsN n) (by kernel_rfl) (by kernel_rfl) (by kernel_rfl) (by kernel_rfl) (.inr ⟨rfl, rfl⟩) ?_
 refine At.say 11 (.int .i64 (if 0 > (partsN n) then 0 else partsN n)) (.int .i64 (max (partsN n) 0)) (by kernel_rfl) (congrArg (V.int .i64) (by omega)) ?_
 refine At.say 11 (.int .i64 (max (partsN n) 0)) (.int .i64 (((max (partsN n) 0).toNat : Nat) : Int)) (by kernel_rfl) (congrArg (V.int .i64) (Int.toNat_of_nonneg (by omega)).symm) ?_
 refine At.make (t := 22) (d := 12) (e := 9) (es := 1) (bytes := 16) (x := .tmp 11) (y := .tmp 11) (ka := .i64) (kb := .i64) (zs := [.str (⟨#[]⟩ : ByteArray)]) 112 ((max (partsN n) 0).toNat) ((List.replicate ((max (partsN n) 0).toNat) (⟨#[]⟩ : ByteArray)).map encS) (by kernel_rfl) (by kernel_rfl) (by kernel_rfl) (by kernel_rfl) (by kernel_rfl) (by omega) (by omega) (by rw [List.map_replicate]; rfl) ?_
 refine At.z 3 ?_
 refine AW.seq ?_
 refine AW.r ?_
 refine At.a 1 ?_
 refine At.c (impl_ParcelOk_spec  (⟨n, d, List.replicate ((max (partsN n) 0).toNat) (⟨#[]⟩ : ByteArray)⟩ : Prc) (by refine ⟨hd, ?_, ?_⟩ <;> dsimp only <;> first | (rw [List.length_replicate]; omega) | (exact Nat.le_trans (Nat.le_of_eq (congrArg List.length hcz)) (by decide)))) Try.call25 false [] [] [(112, 1, ((List.replicate ((max (partsN n) 0).toNat) (⟨#[]⟩ : ByteArray)).map encS))] ⟨rfl, ⟨9, ((List.replicate ((max (partsN n) 0).toNat) (⟨#[]⟩ : ByteArray)).map encS), by kernel_rfl, FrzIs.same (allP_encS _)⟩, trivial⟩ ?_
 refine At.z 1 ?_
 refine AW.cNB (prcOk (⟨n, d, List.replicate ((max (partsN n) 0).toNat) (⟨#[]⟩ : ByteArray)⟩ : Prc)) (fun h1 => ?_) (fun h1 => ?_)
 · refine AW.q 3 ?_
   refine AW.ret ?_
   refine ⟨_, Sub.nils [⟨true, 104, some 2, 5002, 9, 1⟩] (by kernel_rfl), ?_⟩
   exact k2 (K_impl_ParcelNew _ n d) (show ((⟨0, (⟨#[]⟩ : ByteArray), []⟩ : Prc)) = ((newP n d).1) from by rw [newP_no (by assumption)]; first | done | rfl) (show (false) = ((newP n d).2) from by rw [newP_no (by assumption)]; first | done | rfl) (KF.n [(5002, 0)])
 refine AW.skip ?_
 refine AW.q 3 ?_
 exact AW.ret (rf (k2 (K_impl_ParcelNew _ n d) (show ((⟨n, d, List.replicate ((max (partsN n) 0).toNat) (⟨#[]⟩ : ByteArray)⟩ : Prc)) = ((newP n d).1) from by rw [newP_yes (by assumption)]; first | done | rfl) (show (true) = ((newP n d).2) from by rw [newP_yes (by assumption)]; first | done | rfl) (KF.n [(112, 0)])))
theorem spec_PartsOf_spec  (n : Int) : FnSpec Try.prog 16 [.int .i64 n] [] (.int .i64 (partsN n)) [] := by
 refine FnSpec.of 10 Try.func16 rfl Try.ntmps16 (by simp) (AW.weakK ?_)
 refine AW.q 1 ?_
 refine AW.seq ?_
 refine AW.r ?_
 refine At.a 1 ?_
 refine At.c (spec_l1In_spec  n 0 1000 ) Try.call36 true [] [] [] trivial ?_
 refine At.z 1 ?_
 refine AW.cNB (inR n 0 1000) (fun h1 => ?_) (fun h1 => ?_)
 · refine AW.q 1 ?_
   refine AW.ret ?_
   refine ⟨_, Sub.refl _ _, ?_⟩
   refine KF.conv (fun w => .int .i64 w) (fun w => []) (show (-1) = (partsN n) from by rw [partsN_no (by assumption)]) ?_
   exact KF.n []
 have h1i := inR_iff.1 h1
 have hni := inR_iff.1 h1
 refine AW.skip ?_
 refine AW.r ?_
 refine At.a 2 ?_
 refine At.sI 7 (n + 16) (by omega) ?_
 refine At.a 1 ?_
 refine At.sJ 8 ((n + 16) - 1) (n + 15) (by omega) (by omega) ?_
 refine At.div (t := 3) (u := 3) (d := 9) (op := .quo) (x := .tmp 8) (y := .const (.int .i64 16)) (kd := .i64) (a := n + 15) (b := 16) (by kernel_rfl) (by kernel_rfl) (by kernel_rfl) (by kernel_rfl) (by omega) (.int .i64 (IntKind.i64.wrap ((n + 15).tdiv 16))) (.inl ⟨rfl, rfl⟩) ?_
 refine At.say 9 (.int .i64 (IntKind.i64.wrap ((n + 15).tdiv 16))) (.int .i64 ((n + 15) / 16)) (by kernel_rfl) (sayQuo (by omega) (by omega) (by omega)) ?_
 refine At.z 1 ?_
 refine AW.ret ?_
 refine ⟨_, Sub.refl _ _, ?_⟩
 refine KF.conv (fun w => .int .i64 w) (fun w => []) (show ((n + 15) / 16) = (partsN n) from by rw [(partsN_of (by assumption)).2.2]) ?_
 exact KF.n []
theorem impl_ParcelLacks_spec  (p : Prc) (hp : SmallP p) : FnSpec Try.prog 17 [.agg [.int .i64 p.size, .str p.digest, .sl false 1 (p.parts.map encS)]] [] (.ref 0) [.arr 3 1 ((lacksI p).map encI)] := by
 obtain ⟨p1, p2, p3⟩ := id hp
 refine FnSpec.of 27 Try.func17 rfl Try.ntmps17 (by simp) (AW.weakK ?_)
 refine AW.q 2 ?_
 refine AW.r ?_
 refine At.lit0 (t := 39) (d := 6) (e := 3) (es := 1) (bytes := 8) 106 (by kernel_rfl) (by kernel_rfl) (by kernel_rfl) (by kernel_rfl) ?_
 refine At.z 1 ?_
 refine AW.seq ?_
 refine AW.r ?_
 refine At.a 1 ?_
 refine At.c (impl_ParcelOk_spec  p hp) Try.call25 true [] [] [] trivial ?_
 refine At.z 1 ?_
 refine AW.cNB (prcOk p) (fun h1 => ?_) (fun h1 => ?_)
 · refine AW.q 2 ?_
   refine AW.ret ?_
   refine ⟨_, Sub.refl _ _, ?_⟩
   refine KF.conv (fun w => .ref 0) (fun w => [.arr 3 1 (w.map encI)]) (show ([]) = (lacksI p) from by unfold lacksI; first | (rw [if_neg (by simp [*])]; done) | (rw [if_pos (by assumption)]; exact lack_end hR (by omega))) ?_
   exact KF.n [(106, 0)]
 refine AW.skip ?_
 refine AW.seq ?_
 refine AW.r ?_
 refine At.a 3 ?_
 refine At.sL 13 encS p.parts ?_
 refine At.z 1 ?_
 refine AW.block ?_
 refine AW.loopW (fun (x : Nat × List Int) => match x with | (k, o) => Go.Sy.mk [.un, .un, .un, .ref 106, .un, .un, .un, .un, .un, .un, .un, .un, .sl false 1 (p.parts.map encS), .int .i64 (p.parts.length : Int), .int .i64 (k : Int)] [(106, .arr 3 1 (o.map encI))]) (fun (x : Nat × List Int) => match x with | (k, o) => k ≤ p.parts.length ∧ o.length ≤ k ∧ lackGo 0 p.parts = o ++ lackGo k (p.parts.drop k)) (fun (x : Nat × List Int) => match x with | (k, o) => p.parts.length - k) (0, []) ⟨by omega, by simp, by rw [List.drop_zero]; rfl⟩ (Sub.o [(106, 106)] [false, false, false, true, false, false, false, false, false, false, false, false, true, true, true]) ?_
 rintro ⟨k, o⟩ ⟨hk, ho, hR⟩
 refine AW.q 1 ?_
 refine AW.seq ?_
 refine AW.cD ((k : Int) < (p.parts.length : Int)) (fun h2 => ?_) (fun h2 => ?_)
 · refine AW.skip ?_
   refine AW.seq ?_
   refine AW.block ?_
   refine AW.r ?_
   refine At.a 1 ?_
   refine At.iSl 22 17 (.tmp 12) (.tmp 14) false 1 (p.parts.map encS) .i64 (k : Int) 9 (by omega) (by simp only [List.length_map]; omega) ?_
   refine Exists.elim (gE p.parts k (by omega)) fun e1 he1 => ?_
   refine At.lVp 9 18 (.tmp 17) false 1 (p.parts.map encS) k 0 false 1 (encS e1) (.str e1) (mapGet he1) ?_
   refine At.z 2 ?_
   refine AW.q 2 ?_
   refine AW.cE (e1.toList) ((⟨#[]⟩ : ByteArray).toList) (fun h3 => ?_) (fun h3 => ?_)
   · refine AW.g ?_
     refine At.a 2 ?_
     refine At.ll 23 3 1 123 (0, 6) (([(k : Int)]).map encI) ?_
     refine At.apK 24 3 1 8 124 106 123 encI o ([(k : Int)]) (by simp only [List.length_map, List.length_append, List.length_take, List.length_drop, List.length_replicate, List.length_set, List.length_cons, List.length_nil]; omega) ?_
     refine At.z 1 ?_
     refine AW.g ?_
     refine At.a 1 ?_
     refine At.sI 25 ((k : Int) + 1) (by omega) ?_
     refine At.z 1 ?_
     exact ⟨(k + 1, (o ++ ([(k : Int)]))), ⟨by omega, by (try simp only [List.length_append, List.length_cons, List.length_nil]); omega, by exact lack_step0 hR he1 (emp_iff.1 (by assumption))⟩, (by simp only; omega), Sub.o [(124, 106)] [false, false, false, true, false, false, false, false, false, false, false, false, true, true, true]⟩
   refine AW.skip ?_
   refine AW.g ?_
   refine At.a 1 ?_
   refine At.sI 25 ((k : Int) + 1) (by omega) ?_
   refine At.z 1 ?_
   exact ⟨(k + 1, o), ⟨by omega, by (try simp only [List.length_append, List.length_cons, List.length_nil]); omega, by exact lack_step1 hR he1 (by rw [← emp_iff]; assumption)⟩, (by simp only; omega), Sub.o [(106, 106)] [false, false, false, true, false, false, false, false, false, false, false, false, true, true, true]⟩
 refine AW.exit ?_
 refine AW.q 2 ?_
 refine AW.ret ?_
 refine ⟨_, Sub.refl _ _, ?_⟩
 refine KF.conv (fun w => .ref 0) (fun w => [.arr 3 1 (w.map encI)]) (show (o) = (lacksI p) from by unfold lacksI; first | (rw [if_neg (by simp [*])]; done) | (rw [if_pos (by assumption)]; exact lack_end hR (by omega))) ?_
 exact KF.n [(106, 0)]
theorem laws_at_spec  (code : List UInt8) (i : Int) (hc : code.length ≤ 1048576) (hi : 0 ≤ i ∧ i ≤ 1000) : FnSpec Try.prog 18 [.sl false 1 (code.map encU8), .int .i64 i] [] (.int .i64 (atF code i)) [] := by
 refine FnSpec.of 20 Try.func18 rfl Try.ntmps18 (by simp) (AW.weakK ?_)
 refine AW.q 1 ?_
 refine AW.seq ?_
 refine AW.r ?_
 refine At.a 3 ?_
 refine At.sL 7 encU8 code ?_
 refine At.z 1 ?_
 refine AW.cD (i < (code.length : Int)) (fun h1 => ?_) (fun h1 => ?_)
 · refine AW.r ?_
   refine At.a 2 ?_
   refine At.iSl 32 11 (.tmp 9) (.tmp 10) false 1 (code.map encU8) .i64 i 5 (by omega) (by simp only [List.length_map]; omega) ?_
   refine Exists.elim (gE code ((i).toNat) (by omega)) fun e1 he1 => ?_
   have hbe1 := UInt8.toNat_lt e1
   refine At.lVp 5 12 (.tmp 11) false 1 (code.map encU8) ((i).toNat) 0 false 1 (encU8 e1) (.int .u8 (e1.toNat : Int)) (mapGet he1) ?_
   refine At.conv (s := 5) (t := 3) (d := 13) (x := .tmp 12) (kd := .u8) (kd' := .i64) (a := (e1.toNat : Int)) (.int .i64 (e1.toNat : Int)) (by kernel_rfl) (by kernel_rfl) (by kernel_rfl) (by kernel_rfl) (sayI _ (by have := UInt8.toNat_lt e1; omega)) ?_
   refine At.z 1 ?_
   refine AW.ret ?_
   refine ⟨_, Sub.refl _ _, ?_⟩
   refine KF.conv (fun w => .int .i64 w) (fun w => []) (show ((e1.toNat : Int)) = (atF code i) from by unfold atF; rw [if_pos (by omega), he1]; rfl) ?_
   exact KF.n []
 refine AW.skip ?_
 refine AW.r ?_
 refine At.a 2 ?_
 refine At.sI 15 (i * 7) (by omega) ?_
 refine At.a 2 ?_
 refine At.sL 17 encU8 code ?_
 refine At.a 1 ?_
 refine At.sI 18 ((i * 7) + (code.length : Int)) (by omega) ?_
 refine At.div (t := 3) (u := 3) (d := 19) (op := .rem) (x := .tmp 18) (y := .const (.int .i64 256)) (kd := .i64) (a := (i * 7) + (code.length : Int)) (b := 256) (by kernel_rfl) (by kernel_rfl) (by kernel_rfl) (by kernel_rfl) (by omega) (.int .i64 (((i * 7) + (code.length : Int)).tmod 256)) (.inr ⟨rfl, rfl⟩) ?_
 refine At.say 19 (.int .i64 (((i * 7) + (code.length : Int)).tmod 256)) (.int .i64 (((i * 7) + (code.length : Int)) % 256)) (by kernel_rfl) (sayRem (by omega)) ?_
 refine At.z 1 ?_
 refine AW.ret ?_
 refine ⟨_, Sub.refl _ _, ?_⟩
 refine KF.conv (fun w => .int .i64 w) (fun w => []) (show (((i * 7) + (code.length : Int)) % 256) = (atF code i) from by unfold atF; rw [if_neg (by omega)]) ?_
 exact KF.n []
def K_impl_PartOf (rs : List ResultVar) (s : ByteArray) (i : Int) (w0_ : ByteArray) (w1_ : Bool) : Exit → Sg → Prop := KF Try.prog 0 rs (.tup [.str w0_, .bool w1_]) []
theorem impl_PartOf_spec  (s : ByteArray) (i : Int) (hs : s.size ≤ 1000) (hi : 0 ≤ i ∧ i ≤ 1000) : FnSpec Try.prog 19 [.str s, .int .i64 i] [] (.tup [.str ((partS s i).1), .bool ((partS s i).2)]) [] := by
 refine FnSpec.of 24 Try.func19 rfl Try.ntmps19 (by simp) (AW.weakK ?_)
 refine AW.q 2 ?_
 refine AW.seq ?_
 refine AW.r ?_
 refine At.a 3 ?_
 refine At.c (impl_PartsOf_spec  (s.size : Int) ) Try.call15 true [] [] [] trivial ?_
 have hpo := partsN_of (n := (s.size : Int)) (inR_iff.2 (by omega))
 refine At.a 1 ?_
 refine At.sI 10 ((partsN (s.size : Int)) - 1) (by omega) ?_
 refine At.c (impl_within_spec  i 0 ((partsN (s.size : Int)) - 1) ) Try.call37 true [] [] [] trivial ?_
 refine At.z 1 ?_
 refine AW.cNB (inR i 0 ((partsN (s.size : Int)) - 1)) (fun h1 => ?_) (fun h1 => ?_)
 · refine AW.q 2 ?_
   exact AW.ret (rf (k2 (K_impl_PartOf _ s i) (show ((⟨#[]⟩ : ByteArray)) = ((partS s i).1) from by rw [partS_no (by assumption)]; first | done | rfl) (show (false) = ((partS s i).2) from by rw [partS_no (by assumption)]; first | done | rfl) (KF.n [])))
 have h1i := inR_iff.1 h1
 have hii := inR_iff.1 h1
 have hlg : longI s.size i = min 16 (s.size - i * 16) := rfl
 refine AW.skip ?_
 refine AW.r ?_
 refine At.a 3 ?_
 refine At.sI 15 (i * 16) (by omega) ?_
 refine At.a 2 ?_
 refine At.sI 17 (i * 16) (by omega) ?_
 refine At.a 3 ?_
 refine At.c (impl_partLong_spec  (s.size : Int) i (by omega) (by omega)) Try.call38 true [] [] [] trivial ?_
 refine At.a 1 ?_
 refine At.sI 22 ((i * 16) + (longI (s.size : Int) i)) (by omega) ?_
 refine At.slStr (t := 9) (d := 23) (x := .tmp 13) (lx := some (.tmp 15)) (hx := some (.tmp 22)) (s := s) (vl := .int .i64 (i * 16)) (vh := .int .i64 ((i * 16) + (longI (s.size : Int) i))) ((i * 16).toNat) (((i * 16) + (longI (s.size : Int) i)).toNat) (by kernel_rfl) (by kernel_rfl) (by kernel_rfl) (by kernel_rfl) (.inr ⟨_, _, rfl, sayNat (by omega)⟩) (.inr ⟨_, _, rfl, sayNat (by omega)⟩) (by omega) (by omega) ?_
 refine At.z 2 ?_
 exact AW.ret (rf (k2 (K_impl_PartOf _ s i) (show ((s.extract ((i * 16).toNat) (((i * 16) + (longI (s.size : Int) i)).toNat))) = ((partS s i).1) from by unfold partS; rw [if_pos (by assumption)]) (show (true) = ((partS s i).2) from by unfold partS; rw [if_pos (by assumption)]) (KF.n [])))
theorem impl_copyTexts_spec  (a : List ByteArray) (hl : a.length ≤ 1048576) : FnSpec Try.prog 59 [.sl false 1 (a.map encS)] [] (.ref 0) [.arr 9 1 (a.map encS)] := by
 refine FnSpec.of 6 Try.func59 rfl Try.ntmps59 (by simp) (AW.weakK ?_)
 refine AW.q 1 ?_
 refine AW.r ?_
 refine At.lit0 (t := 22) (d := 3) (e := 9) (es := 1) (bytes := 16) 103 (by kernel_rfl) (by kernel_rfl) (by kernel_rfl) (by kernel_rfl) ?_
 refine At.a 1 ?_
 refine At.append (t := 22) (d := 5) (e := 9) (es := 1) (bytes := 16) (s := .tmp 3) (x := .tmp 4) (S := .ref 103) (T := .sl false 1 (a.map encS)) (xs := []) (ys := (a.map encS)) 105 [103] [] (a.map encS) (by kernel_rfl) (by kernel_rfl) (by kernel_rfl) (by kernel_rfl) ⟨by kernel_rfl, rfl⟩ ⟨rfl, rfl, (allP_encS _), rfl⟩ (by kernel_rfl) (by kernel_rfl) (by simp) (by simp only [List.length_map, List.length_append, List.length_take, List.length_drop, List.length_replicate, List.length_set, List.length_cons, List.length_nil]; omega) (by simp only [List.length_map, List.length_append, List.length_take, List.length_drop, List.length_replicate, List.length_set, List.length_cons, List.length_nil]; omega) ?_
 refine At.z 1 ?_
 exact AW.ret (rf (KF.n [(105, 0)]))
theorem impl_copyParcel_spec  (p : Prc) (hl : p.parts.length ≤ 1048576) : FnSpec Try.prog 39 [.agg [.int .i64 p.size, .str p.digest, .sl false 1 (p.parts.map encS)]] [] (.agg [.int .i64 p.size, .str p.digest, .ref 0]) [.arr 9 1 (p.parts.map encS)] := by
 refine FnSpec.of 8 Try.func39 rfl Try.ntmps39 (by simp) (AW.weakK ?_)
 refine AW.q 2 ?_
 refine AW.seq ?_
 refine AW.weak (Sub.nils [⟨true, 102, some 2, 5001, 9, 1⟩] (by kernel_rfl)) ?_
 refine AW.g ?_
 refine At.a 2 ?_
 refine At.c (impl_copyTexts_spec  p.parts (by omega)) Try.call59 true [] [(1100, 0)] [] trivial ?_
 refine At.z 2 ?_
 refine AW.q 2 ?_
 exact AW.ret (rf (KF.n [(1100, 0)]))
def K_impl_ParcelPut (rs : List ResultVar) (p : Prc) (i : Int) (t : ByteArray) (w0_ : Prc) (w1_ : Int) : Exit → Sg → Prop := KF Try.prog 0 rs (.tup [.agg [.int .i64 w0_.size, .str w0_.digest, .ref 0], .int .i64 w1_]) [.arr 9 1 (w0_.parts.map encS)]
theorem impl_ParcelPut_spec  (p : Prc) (i : Int) (t : ByteArray) (hp : SmallP p) (hi : 0 ≤ i ∧ i ≤ 1000) : FnSpec Try.prog 20 [.agg [.int .i64 p.size, .str p.digest, .sl false 1 (p.parts.map encS)], .int .i64 i, .str t] [] (.tup [.agg [.int .i64 (((putP p i t).1).size), .str (((putP p i t).1).digest), .ref 0], .int .i64 ((putP p i t).2)]) [.arr 9 1 ((((putP p i t).1).parts).map encS)] := by
 obtain ⟨p1, p2, p3⟩ := id hp
 refine FnSpec.of 51 Try.func20 rfl Try.ntmps20 (by simp) (AW.weakK ?_)
 refine AW.q 3 ?_
 refine AW.seq ?_
 refine AW.seq ?_
 refine AW.weak (Sub.nils [⟨true, 106, some 2, 5001, 9, 1⟩] (by kernel_rfl)) ?_
 refine AW.g ?_
 refine At.a 1 ?_
 refine At.c (impl_ParcelOk_spec  p hp) Try.call25 true [] [] [] trivial ?_
 refine At.a 2 ?_
 by_cases h1 : (prcOk p) = true
 · refine At.sB 12 (!(prcOk p)) false (sayNF (sayB h1)) ?_
   have hpm := prc_nums h1
   refine At.a 4 ?_
   refine At.sL 16 encS p.parts ?_
   refine At.a 1 ?_
   refine At.sI 17 ((p.parts.length : Int) - 1) (by omega) ?_
   refine At.c (impl_within_spec  i 0 ((p.parts.length : Int) - 1) ) Try.call37 true [] [] [] trivial ?_
   refine At.a 3 ?_
   by_cases h2 : (inR i 0 ((p.parts.length : Int) - 1)) = true
   · refine At.sB 21 (!(inR i 0 ((p.parts.length : Int) - 1))) false (sayNF (sayB h2)) ?_
     have h2i := inR_iff.1 h2
     have hii := inR_iff.1 h2
     refine At.a 5 ?_
     refine At.c (impl_partLong_spec  p.size i (by omega) (by omega)) Try.call38 true [] [] [] trivial ?_
     refine At.z 2 ?_
     refine AW.cU (t.size : Int) (longI p.size i) (fun h3 => ?_) (fun h3 => ?_)
     · refine AW.q 3 ?_
       refine AW.ret ?_
       refine ⟨_, Sub.nils [⟨true, 106, some 2, 5002, 9, 1⟩] (by kernel_rfl), ?_⟩
       exact k2 (K_impl_ParcelPut _ p i t) (show ((⟨0, (⟨#[]⟩ : ByteArray), []⟩ : Prc)) = ((putP p i t).1) from by rw [put_1 (fun q => absurd q.2.2 (by omega))]; first | done | rfl) (show (1) = ((putP p i t).2) from by rw [put_1 (fun q => absurd q.2.2 (by omega))]; first | done | rfl) (KF.n [(5002, 0)])
     refine AW.skip ?_
     refine AW.r ?_
     refine At.a 1 ?_
     refine At.c (impl_copyParcel_spec  p p2) Try.call39 true [] [(1640, 0)] [] trivial ?_
     refine At.z 2 ?_
     refine AW.seq ?_
     refine AW.r ?_
     refine At.a 3 ?_
     refine At.iSl 22 36 (.tmp 34) (.tmp 35) false 1 (p.parts.map encS) .i64 i 9 (by omega) (by simp only [List.length_map]; omega) ?_
     refine Exists.elim (gE p.parts ((i).toNat) (by omega)) fun e1 he1 => ?_
     refine At.lVp 9 37 (.tmp 36) false 1 (p.parts.map encS) ((i).toNat) 0 false 1 (encS e1) (.str e1) (mapGet he1) ?_
     refine At.done rfl ?_
     refine AW.block ?_
     refine AW.q 2 ?_
     refine AW.cE (e1.toList) ((⟨#[]⟩ : ByteArray).toList) (fun h4 => ?_) (fun h4 => ?_)
     · refine AW.r ?_
       refine At.a 4 ?_
       refine At.iRf 22 44 (.tmp 41) (.tmp 42) 1640 (p.parts.map encS) .i64 i 9 1 (by omega) (by simp only [List.length_map]; omega) ?_
       refine At.sEl 9 1640 9 1 ((i).toNat) 0 (.tmp 44) (.tmp 43) (p.parts.map encS) ((p.parts.set ((i).toNat) t).map encS) [.str t] (.str t) (encS e1) (encS t) (mapGet he1) setV ?_
       refine At.done rfl ?_
       refine AW.q 3 ?_
       exact AW.ret (rf (k2 (K_impl_ParcelPut _ p i t) (show ((⟨p.size, p.digest, p.parts.set ((i).toNat) t⟩ : Prc)) = ((putP p i t).1) from by rw [put_0 (e := e1) ⟨by assumption, by assumption, by omega⟩ he1 (emp_iff.1 (by assumption))]) (show (0) = ((putP p i t).2) from by rw [put_0 (e := e1) ⟨by assumption, by assumption, by omega⟩ he1 (emp_iff.1 (by assumption))]) (KF.n [(1640, 0)])))
     refine AW.q 3 ?_
     refine AW.cE (e1.toList) (t.toList) (fun h5 => ?_) (fun h5 => ?_)
     · refine AW.q 3 ?_
       exact AW.ret (rf (k2 (K_impl_ParcelPut _ p i t) (show (p) = ((putP p i t).1) from by rw [put_2 (e := e1) ⟨by assumption, by assumption, by omega⟩ he1 (by rw [← emp_iff]; assumption) (by assumption)]) (show (2) = ((putP p i t).2) from by rw [put_2 (e := e1) ⟨by assumption, by assumption, by omega⟩ he1 (by rw [← emp_iff]; assumption) (by assumption)]) (KF.n [(1640, 0)])))
     refine AW.skip ?_
     refine AW.q 3 ?_
     exact AW.ret (rf (k2 (K_impl_ParcelPut _ p i t) (show (p) = ((putP p i t).1) from by rw [put_3 (e := e1) ⟨by assumption, by assumption, by omega⟩ he1 (by rw [← emp_iff]; assumption) (by assumption)]) (show (3) = ((putP p i t).2) from by rw [put_3 (e := e1) ⟨by assumption, by assumption, by omega⟩ he1 (by rw [← emp_iff]; assumption) (by assumption)]) (KF.n [(1640, 0)])))
   refine At.sB 21 (!(inR i 0 ((p.parts.length : Int) - 1))) true (sayNT (sayB (Bool.eq_false_iff.2 h2))) ?_
   replace h2 := Bool.eq_false_iff.2 h2
   refine At.z 8 ?_
   refine AW.cond true (by kernel_rfl) (fun _ => ?_) (fun h => by cases h)
   refine AW.q 3 ?_
   refine AW.ret ?_
   refine ⟨_, Sub.nils [⟨true, 106, some 2, 5003, 9, 1⟩] (by kernel_rfl), ?_⟩
   exact k2 (K_impl_ParcelPut _ p i t) (show ((⟨0, (⟨#[]⟩ : ByteArray), []⟩ : Prc)) = ((putP p i t).1) from by rw [put_1c (by assumption)]; first | done | rfl) (show (1) = ((putP p i t).2) from by rw [put_1c (by assumption)]; first | done | rfl) (KF.n [(5003, 0)])
 refine At.sB 12 (!(prcOk p)) true (sayNT (sayB (Bool.eq_false_iff.2 h1))) ?_
 replace h1 := Bool.eq_false_iff.2 h1
 refine At.z 17 ?_
 refine AW.cond true (by kernel_rfl) (fun _ => ?_) (fun h => by cases h)
 refine AW.q 3 ?_
 refine AW.ret ?_
 refine ⟨_, Sub.nils [⟨true, 106, some 2, 5004, 9, 1⟩] (by kernel_rfl), ?_⟩
 exact k2 (K_impl_ParcelPut _ p i t) (show ((⟨0, (⟨#[]⟩ : ByteArray), []⟩ : Prc)) = ((putP p i t).1) from by rw [put_1b (by assumption)]; first | done | rfl) (show (1) = ((putP p i t).2) from by rw [put_1b (by assumption)]; first | done | rfl) (KF.n [(5004, 0)])
theorem strings_Join_spec  (a : List ByteArray) (sep : ByteArray) (hs : sep = ⟨#[]⟩) (hl : a.length ≤ 1048576) (hc : (catS a).length ≤ 1048576) : FnSpec Try.prog 24 [.sl false 1 (a.map encS), .str sep] [] (.str (strOf (catS a))) [] := by
 subst hs
 exact join_spec a hl hc (fun A c w => Try.strings_Join_none A c _ w) (fun bk o c w h1 h2 h3 => (Try.strings_Join bk o c a ⟨#[]⟩ w h1 h2 (by omega) h3 (by rw [joinLib]; omega)).mono fun e w' h => ⟨h.1.trans (by rw [joinLib]; rfl), h.2⟩)
theorem impl_firstWords_spec   : FnSpec Try.prog 44 [] [] (.agg (sp8 firstI)) [] := by
 refine FnSpec.of 2 Try.func44 rfl Try.ntmps44 (by simp) (AW.weakK ?_)
 refine AW.q 1 ?_
 refine AW.r ?_
 refine At.bldA (t := 77) (d := 1) (parts := #[(0, .const (.int .i64 1779033703)), (1, .const (.int .i64 3144134277)), (2, .const (.int .i64 1013904242)), (3, .const (.int .i64 2773480762)), (4, .const (.int .i64 1359893119)), (5, .const (.int .i64 2600822924)), (6, .const (.int .i64 528734635)), (7, .const (.int .i64 1541459225))]) (sp8 ([1779033703, 3144134277, 1013904242, 2773480762, 1359893119, 2600822924, 528734635, 1541459225])) (by kernel_rfl) (by kernel_rfl) (by kernel_rfl) (by kernel_rfl) ?_
 refine At.z 1 ?_
 refine AW.ret ?_
 refine ⟨_, Sub.refl _ _, ?_⟩
 refine KF.conv (fun w => .agg (sp8 w)) (fun w => []) (show ([1779033703, 3144134277, 1013904242, 2773480762, 1359893119, 2600822924, 528734635, 1541459225]) = (firstI) from rfl) ?_
 exact KF.n []
theorem impl_constants_spec   : FnSpec Try.prog 63 [] [] (.agg (sp64 keysI)) [] := by
 refine FnSpec.of 2 Try.func63 rfl Try.ntmps63 (by simp) (AW.weakK ?_)
 refine AW.q 1 ?_
 refine AW.r ?_
 refine At.bldA (t := 99) (d := 1) (parts := #[(0, .const (.int .i64 1116352408)), (1, .const (.int .i64 1899447441)), (2, .const (.int .i64 3049323471)), (3, .const (.int .i64 3921009573)), (4, .const (.int .i64 961987163)), (5, .const (.int .i64 1508970993)), (6, .const (.int .i64 2453635748)), (7, .const (.int .i64 2870763221)), (8, .const (.int .i64 3624381080)), (9, .const (.int .i64 310598401)), (10, .const (.int .i64 607225278)), (11, .const (.int .i64 1426881987)), (12, .const (.int .i64 1925078388)), (13, .const (.int .i64 2162078206)), (14, .const (.int .i64 2614888103)), (15, .const (.int .i64 3248222580)), (16, .const (.int .i64 3835390401)), (17, .const (.int .i64 4022224774)), (18, .const (.int .i64 264347078)), (19, .const (.int .i64 604807628)), (20, .const (.int .i64 770255983)), (21, .const (.int .i64 1249150122)), (22, .const (.int .i64 1555081692)), (23, .const (.int .i64 1996064986)), (24, .const (.int .i64 2554220882)), (25, .const (.int .i64 2821834349)), (26, .const (.int .i64 2952996808)), (27, .const (.int .i64 3210313671)), (28, .const (.int .i64 3336571891)), (29, .const (.int .i64 3584528711)), (30, .const (.int .i64 113926993)), (31, .const (.int .i64 338241895)), (32, .const (.int .i64 666307205)), (33, .const (.int .i64 773529912)), (34, .const (.int .i64 1294757372)), (35, .const (.int .i64 1396182291)), (36, .const (.int .i64 1695183700)), (37, .const (.int .i64 1986661051)), (38, .const (.int .i64 2177026350)), (39, .const (.int .i64 2456956037)), (40, .const (.int .i64 2730485921)), (41, .const (.int .i64 2820302411)), (42, .const (.int .i64 3259730800)), (43, .const (.int .i64 3345764771)), (44, .const (.int .i64 3516065817)), (45, .const (.int .i64 3600352804)), (46, .const (.int .i64 4094571909)), (47, .const (.int .i64 275423344)), (48, .const (.int .i64 430227734)), (49, .const (.int .i64 506948616)), (50, .const (.int .i64 659060556)), (51, .const (.int .i64 883997877)), (52, .const (.int .i64 958139571)), (53, .const (.int .i64 1322822218)), (54, .const (.int .i64 1537002063)), (55, .const (.int .i64 1747873779)), (56, .const (.int .i64 1955562222)), (57, .const (.int .i64 2024104815)), (58, .const (.int .i64 2227730452)), (59, .const (.int .i64 2361852424)), (60, .const (.int .i64 2428436474)), (61, .const (.int .i64 2756734187)), (62, .const (.int .i64 3204031479)), (63, .const (.int .i64 3329325298))]) (sp64 ([1116352408, 1899447441, 3049323471, 3921009573, 961987163, 1508970993, 2453635748, 2870763221, 3624381080, 310598401, 607225278, 1426881987, 1925078388, 2162078206, 2614888103, 3248222580, 3835390401, 4022224774, 264347078, 604807628, 770255983, 1249150122, 1555081692, 1996064986, 2554220882, 2821834349, 2952996808, 3210313671, 3336571891, 3584528711, 113926993, 338241895, 666307205, 773529912, 1294757372, 1396182291, 1695183700, 1986661051, 2177026350, 2456956037, 2730485921, 2820302411, 3259730800, 3345764771, 3516065817, 3600352804, 4094571909, 275423344, 430227734, 506948616, 659060556, 883997877, 958139571, 1322822218, 1537002063, 1747873779, 1955562222, 2024104815, 2227730452, 2361852424, 2428436474, 2756734187, 3204031479, 3329325298])) (by kernel_rfl) (by kernel_rfl) (by kernel_rfl) (by kernel_rfl) ?_
 refine At.z 1 ?_
 refine AW.ret ?_
 refine ⟨_, Sub.refl _ _, ?_⟩
 refine KF.conv (fun w => .agg (sp64 w)) (fun w => []) (show ([1116352408, 1899447441, 3049323471, 3921009573, 961987163, 1508970993, 2453635748, 2870763221, 3624381080, 310598401, 607225278, 1426881987, 1925078388, 2162078206, 2614888103, 3248222580, 3835390401, 4022224774, 264347078, 604807628, 770255983, 1249150122, 1555081692, 1996064986, 2554220882, 2821834349, 2952996808, 3210313671, 3336571891, 3584528711, 113926993, 338241895, 666307205, 773529912, 1294757372, 1396182291, 1695183700, 1986661051, 2177026350, 2456956037, 2730485921, 2820302411, 3259730800, 3345764771, 3516065817, 3600352804, 4094571909, 275423344, 430227734, 506948616, 659060556, 883997877, 958139571, 1322822218, 1537002063, 1747873779, 1955562222, 2024104815, 2227730452, 2361852424, 2428436474, 2756734187, 3204031479, 3329325298]) = (keysI) from rfl) ?_
 exact KF.n []
theorem impl_turnRight_spec  (x : Int) (n : Int) (hx : 0 ≤ x ∧ x < 4294967296) (hn : 2 ≤ n ∧ n ≤ 30) : FnSpec Try.prog 65 [.int .i64 x, .int .i64 n] [] (.int .i64 (turnI x n)) [] := by
 refine FnSpec.of 14 Try.func65 rfl Try.ntmps65 (by simp) (AW.weakK ?_)
 refine AW.q 1 ?_
 refine AW.seq ?_
 refine AW.gD Try_mix ?_
 refine At.a 2 ?_
 refine At.shift (t := 3) (u := 3) (d := 7) (op := .shr) (x := .tmp 5) (y := .tmp 6) (kd := .i64) (kd' := .i64) (a := x) (b := n) (shV .shr .i64 x n) (by kernel_rfl) (by kernel_rfl) (by kernel_rfl) (by kernel_rfl) (by omega) (shS_shr _ _ _) ?_
 refine At.a 3 ?_
 refine At.sI 10 (32 - n) (by omega) ?_
 refine At.shift (t := 3) (u := 3) (d := 11) (op := .shl) (x := .tmp 8) (y := .tmp 10) (kd := .i64) (kd' := .i64) (a := x) (b := 32 - n) (shV .shl .i64 x (32 - n)) (by kernel_rfl) (by kernel_rfl) (by kernel_rfl) (by kernel_rfl) (by omega) (shS_shl _ _ _) ?_
 refine At.bits (t := 3) (u := 3) (d := 12) (op := .or) (x := .tmp 7) (y := .tmp 11) (kd := .i64) (a := shV .shr .i64 x n) (b := shV .shl .i64 x (32 - n)) (bitV .or .i64 (shV .shr .i64 x n) (shV .shl .i64 x (32 - n))) (by kernel_rfl) (by kernel_rfl) (by kernel_rfl) (by kernel_rfl) (bitS_or _ _ _) ?_
 refine At.bits (t := 3) (u := 3) (d := 13) (op := .and) (x := .tmp 12) (y := .const (.int .i64 4294967295)) (kd := .i64) (a := bitV .or .i64 (shV .shr .i64 x n) (shV .shl .i64 x (32 - n))) (b := 4294967295) ((bitV .or .i64 (shV .shr .i64 x n) (shV .shl .i64 x (32 - n))) % 4294967296) (by kernel_rfl) (by kernel_rfl) (by kernel_rfl) (by kernel_rfl) (andM 32 4294967296 _ _ (by decide) (by decide) (by decide)) ?_
 refine At.zD 1 ?_
 refine AW.ret ?_
 refine ⟨_, Sub.refl _ _, ?_⟩
 refine KF.conv (fun w => .int .i64 w) (fun w => []) (show ((bitV .or .i64 (shV .shr .i64 x n) (shV .shl .i64 x (32 - n))) % 4294967296) = (turnI x n) from rfl) ?_
 exact KF.n []
end Go.Proofs.Ytdpcdcogbmkffaa
