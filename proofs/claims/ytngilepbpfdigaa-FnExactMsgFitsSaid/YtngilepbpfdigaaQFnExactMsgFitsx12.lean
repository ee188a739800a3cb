-- Written by a program of this session (wip/opq/msgfits.py).
import Derived.Test.YtngilepbpfdigaaQFnExactMsgFitsx1
import Derived.Test.YtngilepbpfdigaaQFnExactMsgFitsx2
import Derived.Test.YtngilepbpfdigaaQFnExactMsgFitsx11
namespace Go.Proofs.Ytngilepbpfdigaa.QFnExactMsgFits
open Go.RowKit Go.Proofs.YtngilepbpfdigaaW.PrintWords Go.Proofs.YtngilepbpfdigaaW.PrintLast Go.Proofs.YtngilepbpfdigaaW.PrintMore Go.Proofs.Ytngilepbpfdigaa.Pure
attribute [local go_sem high] eqA29
set_option linter.unusedVariables false
set_option linter.unusedSimpArgs false
def fitsS (a0 a1 a2 a3 a4 a5 : Int) (a6 : Bool) (a7 a8 : Int) (a9 : ByteArray) (a10 a11 a12 a13 : Int) (a14 : ByteArray) (l : List S40) : Bool :=
  (!(hasS a0).toList.isEmpty && (numB (inB (hasS a0) 102) a1 0 4 && (numB (inB (hasS a0) 116) a2 0 1000000000 && (numB (inB (hasS a0) 97) a3 0 80 && (numB (inB (hasS a0) 115) a4 0 1000000000 && numB (inB (hasS a0) 99) a5 0 80))))) && ((numB (inB (hasS a0) 114) a7 1 1000 && (numB (inB (hasS a0) 112) a8 0 1000 && ((!a6 || inB (hasS a0) 121) && (numB (inB (hasS a0) 98) (a9.size : Int) 1 16 && numB (inB (hasS a0) 101 || ((l.length : Int) == 0)) (l.length : Int) 0 6)))) && ((if inB (hasS a0) 100 then cOk a10 a11 a12 a13 a14 else (a10 == 0 && (a11 == 0 && (a12 == 0 && (a13 == 0 && a14.toList.isEmpty))))) && l.all entT))
set_option maxHeartbeats 4000000 in
set_option maxRecDepth 100000 in
theorem spec_MsgFits.t (a0 a1 a2 a3 a4 a5 : Int) (a6 : Bool) (a7 a8 : Int) (a9 : ByteArray) (a10 a11 a12 a13 : Int) (a14 : ByteArray) (A : Option Addr) (c : Nat) (l : List S40) (w : World) (hr : Kd.C k40 w A l.length l) (hc : l.length ≤ c) :
    Calls Try.prog 10 #[.agg #[.int .i64 a0, .int .i64 a1, .int .i64 a2, .int .i64 a3, .int .i64 a4, .int .i64 a5, .bool a6, .int .i64 a7, .int .i64 a8, .string a9, .int .i64 a10, .int .i64 a11, .int .i64 a12, .int .i64 a13, .string a14, .slice A l.length c]] w fun e w' => e = .returned (.bool (fitsS a0 a1 a2 a3 a4 a5 a6 a7 a8 a9 a10 a11 a12 a13 a14 l)) ∧ Below w.heap.size w w' := by
  have HR := Aside0.mk hr
  have hlm : l.length ≤ 9223372036854775807 := hr.2.1
  have HLM := Aside0.mk hlm
  clear hr hlm
  go_enter Try.func10, Try.ntmps10
  go_upto_region 2 with (first
    | ((with_reducible refine gate_dst (N := 1) rfl ?_); refine box_event ?hg (N := 1) ?hd (cs := #[.int .i64 a0, .int .i64 a1, .int .i64 a2, .int .i64 a3, .int .i64 a4, .int .i64 a5, .bool a6, .int .i64 a7, .int .i64 a8, .string a9, .int .i64 a10, .int .i64 a11, .int .i64 a12, .int .i64 a13, .string a14, .slice A l.length c]) (t := 32) ?hr ?_; (case hd => rfl); (case hg => rfl); (case hr => first | (go_simp; done) | (go_simp; rfl)); intro g hg w1 hbox hb; have BK := Aside0.mk hbox; have HB := Aside0.mk hb; have HG := Aside0.mk (show w.heap.size ≤ g by omega); clear hg hbox hb; have hcz0 : w1.cell? ⟨g, 0, none⟩ = some (.int .i64 a0) := (blk_cell BK.out 0).trans rfl)
    | (go_at_call 19; refine (has_t a0 _).mono ?_; rintro e w2 ⟨rfl, hb⟩; have BK2 := Aside0.mk (blk_below BK.out hb); have HB2 := Aside0.mk (below_step HB.out hb); clear BK HB hb hcz0; have BK := BK2; have HB := HB2; clear BK2 HB2))
  go_cut [50] (fun v wc => ∃ b : Bool, v = .bool (!b) ∧ Aside0 (b = (!(hasS a0).toList.isEmpty && (numB (inB (hasS a0) 102) a1 0 4 && (numB (inB (hasS a0) 116) a2 0 1000000000 && (numB (inB (hasS a0) 97) a3 0 80 && (numB (inB (hasS a0) 115) a4 0 1000000000 && numB (inB (hasS a0) 99) a5 0 80)))))) ∧ Aside0 (wc.heap[g]? = some (.cells #[.int .i64 a0, .int .i64 a1, .int .i64 a2, .int .i64 a3, .int .i64 a4, .int .i64 a5, .bool a6, .int .i64 a7, .int .i64 a8, .string a9, .int .i64 a10, .int .i64 a11, .int .i64 a12, .int .i64 a13, .string a14, .slice A l.length c] 32 (0, 0))) ∧ Aside0 (Below w.heap.size w wc))
  case first =>
    have hcz1 : w2.cell? ⟨g, 1, none⟩ = some (.int .i64 a1) := (blk_cell BK.out 1).trans rfl
    have hcz2 : w2.cell? ⟨g, 2, none⟩ = some (.int .i64 a2) := (blk_cell BK.out 2).trans rfl
    have hcz3 : w2.cell? ⟨g, 3, none⟩ = some (.int .i64 a3) := (blk_cell BK.out 3).trans rfl
    have hcz4 : w2.cell? ⟨g, 4, none⟩ = some (.int .i64 a4) := (blk_cell BK.out 4).trans rfl
    have hcz5 : w2.cell? ⟨g, 5, none⟩ = some (.int .i64 a5) := (blk_cell BK.out 5).trans rfl
    cases q0 : (hasS a0).toList.isEmpty with
    | true =>
      go_quiet ((first | (go_at_call 21; refine (in_t a0 _ _).mono ?_; rintro e w' ⟨rfl, ⟨nd, rfl⟩⟩; (try first | exact ⟨rfl, _, World.drewN_drewN _ _ _⟩ | exact ⟨rfl, _, Eq.trans (World.drewN_drewN _ _ _) (congrArg (World.drewN _) (Nat.add_assoc _ _ _))⟩)) | (go_at_call 20; refine (num_t _ _ _ _ _).mono ?_; rintro e w' ⟨rfl, ⟨nd, rfl⟩⟩; (try first | exact ⟨rfl, _, World.drewN_drewN _ _ _⟩ | exact ⟨rfl, _, Eq.trans (World.drewN_drewN _ _ _) (congrArg (World.drewN _) (Nat.add_assoc _ _ _))⟩))))
      go_wp2
      go_meet
      case rel => exact ⟨false, rfl, ⟨by simp [q0]⟩, ⟨by (with_reducible repeat (first | refine blk_drewN ?_ _ | refine blk_drew ?_ | refine blk_alloc ?_ _)); exact BK.out⟩, ⟨by repeat (first | (with_reducible first | exact HB.out | apply below_alloc | apply pw_below_drewN | apply below_drew1 | refine below_set ?_ HG.out) | exact HB.out)⟩⟩
    | false =>
    cases q1 : numB (inB (hasS a0) 102) a1 0 4 with
    | false =>
      go_quiet ((first | (go_at_call 21; refine (in_t a0 _ _).mono ?_; rintro e w' ⟨rfl, ⟨nd, rfl⟩⟩; (try first | exact ⟨rfl, _, World.drewN_drewN _ _ _⟩ | exact ⟨rfl, _, Eq.trans (World.drewN_drewN _ _ _) (congrArg (World.drewN _) (Nat.add_assoc _ _ _))⟩)) | (go_at_call 20; refine (num_t _ _ _ _ _).mono ?_; rintro e w' ⟨rfl, ⟨nd, rfl⟩⟩; (try first | exact ⟨rfl, _, World.drewN_drewN _ _ _⟩ | exact ⟨rfl, _, Eq.trans (World.drewN_drewN _ _ _) (congrArg (World.drewN _) (Nat.add_assoc _ _ _))⟩))))
      go_wp2
      go_meet
      case rel => exact ⟨false, rfl, ⟨by simp [q0, q1]⟩, ⟨by (with_reducible repeat (first | refine blk_drewN ?_ _ | refine blk_drew ?_ | refine blk_alloc ?_ _)); exact BK.out⟩, ⟨by repeat (first | (with_reducible first | exact HB.out | apply below_alloc | apply pw_below_drewN | apply below_drew1 | refine below_set ?_ HG.out) | exact HB.out)⟩⟩
    | true =>
    cases q2 : numB (inB (hasS a0) 116) a2 0 1000000000 with
    | false =>
      go_quiet ((first | (go_at_call 21; refine (in_t a0 _ _).mono ?_; rintro e w' ⟨rfl, ⟨nd, rfl⟩⟩; (try first | exact ⟨rfl, _, World.drewN_drewN _ _ _⟩ | exact ⟨rfl, _, Eq.trans (World.drewN_drewN _ _ _) (congrArg (World.drewN _) (Nat.add_assoc _ _ _))⟩)) | (go_at_call 20; refine (num_t _ _ _ _ _).mono ?_; rintro e w' ⟨rfl, ⟨nd, rfl⟩⟩; (try first | exact ⟨rfl, _, World.drewN_drewN _ _ _⟩ | exact ⟨rfl, _, Eq.trans (World.drewN_drewN _ _ _) (congrArg (World.drewN _) (Nat.add_assoc _ _ _))⟩))))
      go_wp2
      go_meet
      case rel => exact ⟨false, rfl, ⟨by simp [q0, q1, q2]⟩, ⟨by (with_reducible repeat (first | refine blk_drewN ?_ _ | refine blk_drew ?_ | refine blk_alloc ?_ _)); exact BK.out⟩, ⟨by repeat (first | (with_reducible first | exact HB.out | apply below_alloc | apply pw_below_drewN | apply below_drew1 | refine below_set ?_ HG.out) | exact HB.out)⟩⟩
    | true =>
    cases q3 : numB (inB (hasS a0) 97) a3 0 80 with
    | false =>
      go_quiet ((first | (go_at_call 21; refine (in_t a0 _ _).mono ?_; rintro e w' ⟨rfl, ⟨nd, rfl⟩⟩; (try first | exact ⟨rfl, _, World.drewN_drewN _ _ _⟩ | exact ⟨rfl, _, Eq.trans (World.drewN_drewN _ _ _) (congrArg (World.drewN _) (Nat.add_assoc _ _ _))⟩)) | (go_at_call 20; refine (num_t _ _ _ _ _).mono ?_; rintro e w' ⟨rfl, ⟨nd, rfl⟩⟩; (try first | exact ⟨rfl, _, World.drewN_drewN _ _ _⟩ | exact ⟨rfl, _, Eq.trans (World.drewN_drewN _ _ _) (congrArg (World.drewN _) (Nat.add_assoc _ _ _))⟩))))
      go_wp2
      go_meet
      case rel => exact ⟨false, rfl, ⟨by simp [q0, q1, q2, q3]⟩, ⟨by (with_reducible repeat (first | refine blk_drewN ?_ _ | refine blk_drew ?_ | refine blk_alloc ?_ _)); exact BK.out⟩, ⟨by repeat (first | (with_reducible first | exact HB.out | apply below_alloc | apply pw_below_drewN | apply below_drew1 | refine below_set ?_ HG.out) | exact HB.out)⟩⟩
    | true =>
    cases q4 : numB (inB (hasS a0) 115) a4 0 1000000000 with
    | false =>
      go_quiet ((first | (go_at_call 21; refine (in_t a0 _ _).mono ?_; rintro e w' ⟨rfl, ⟨nd, rfl⟩⟩; (try first | exact ⟨rfl, _, World.drewN_drewN _ _ _⟩ | exact ⟨rfl, _, Eq.trans (World.drewN_drewN _ _ _) (congrArg (World.drewN _) (Nat.add_assoc _ _ _))⟩)) | (go_at_call 20; refine (num_t _ _ _ _ _).mono ?_; rintro e w' ⟨rfl, ⟨nd, rfl⟩⟩; (try first | exact ⟨rfl, _, World.drewN_drewN _ _ _⟩ | exact ⟨rfl, _, Eq.trans (World.drewN_drewN _ _ _) (congrArg (World.drewN _) (Nat.add_assoc _ _ _))⟩))))
      go_wp2
      go_meet
      case rel => exact ⟨false, rfl, ⟨by simp [q0, q1, q2, q3, q4]⟩, ⟨by (with_reducible repeat (first | refine blk_drewN ?_ _ | refine blk_drew ?_ | refine blk_alloc ?_ _)); exact BK.out⟩, ⟨by repeat (first | (with_reducible first | exact HB.out | apply below_alloc | apply pw_below_drewN | apply below_drew1 | refine below_set ?_ HG.out) | exact HB.out)⟩⟩
    | true =>
    go_quiet ((first | (go_at_call 21; refine (in_t a0 _ _).mono ?_; rintro e w' ⟨rfl, ⟨nd, rfl⟩⟩; (try first | exact ⟨rfl, _, World.drewN_drewN _ _ _⟩ | exact ⟨rfl, _, Eq.trans (World.drewN_drewN _ _ _) (congrArg (World.drewN _) (Nat.add_assoc _ _ _))⟩)) | (go_at_call 20; refine (num_t _ _ _ _ _).mono ?_; rintro e w' ⟨rfl, ⟨nd, rfl⟩⟩; (try first | exact ⟨rfl, _, World.drewN_drewN _ _ _⟩ | exact ⟨rfl, _, Eq.trans (World.drewN_drewN _ _ _) (congrArg (World.drewN _) (Nat.add_assoc _ _ _))⟩))))
    go_wp2
    go_meet
    case rel => exact ⟨numB (inB (hasS a0) 99) a5 0 80, rfl, ⟨by simp [q0, q1, q2, q3, q4]⟩, ⟨by (with_reducible repeat (first | refine blk_drewN ?_ _ | refine blk_drew ?_ | refine blk_alloc ?_ _)); exact BK.out⟩, ⟨by repeat (first | (with_reducible first | exact HB.out | apply below_alloc | apply pw_below_drewN | apply below_drew1 | refine below_set ?_ HG.out) | exact HB.out)⟩⟩
  case rest =>
   clear BK HB
   obtain ⟨b1, rfl, g1, BK, HB⟩ := hcut
   cases b1 with
   | false =>
     go_wp2
     go_ret
     exact ⟨by rw [fitsS, ← g1.out]; rfl, HB.out⟩
   | true =>
   go_upto_region 4 with (fail)
   go_cut [97] (fun v wc => ∃ b : Bool, v = .bool (!b) ∧ Aside0 (b = (numB (inB (hasS a0) 114) a7 1 1000 && (numB (inB (hasS a0) 112) a8 0 1000 && ((!a6 || inB (hasS a0) 121) && (numB (inB (hasS a0) 98) (a9.size : Int) 1 16 && numB (inB (hasS a0) 101 || ((l.length : Int) == 0)) (l.length : Int) 0 6))))) ∧ Aside0 (wc.heap[g]? = some (.cells #[.int .i64 a0, .int .i64 a1, .int .i64 a2, .int .i64 a3, .int .i64 a4, .int .i64 a5, .bool a6, .int .i64 a7, .int .i64 a8, .string a9, .int .i64 a10, .int .i64 a11, .int .i64 a12, .int .i64 a13, .string a14, .slice A l.length c] 32 (0, 0))) ∧ Aside0 (Below w.heap.size w wc))
   case first =>
     obtain ⟨b6, H6⟩ : ∃ b6 : Bool, Aside0 (b6 = a6) := ⟨a6, ⟨rfl⟩⟩
     have hcz6 : wc.cell? ⟨g, 6, none⟩ = some (.bool b6) := by rw [H6.out]; exact (blk_cell BK.out 6).trans rfl
     have hcz7 : wc.cell? ⟨g, 7, none⟩ = some (.int .i64 a7) := (blk_cell BK.out 7).trans rfl
     have hcz8 : wc.cell? ⟨g, 8, none⟩ = some (.int .i64 a8) := (blk_cell BK.out 8).trans rfl
     have hcz9 : wc.cell? ⟨g, 9, none⟩ = some (.string a9) := (blk_cell BK.out 9).trans rfl
     have hcz15 : wc.cell? ⟨g, 15, none⟩ = some (.slice A l.length c) := (blk_cell BK.out 15).trans rfl
     cases q6 : numB (inB (hasS a0) 114) a7 1 1000 with
     | false =>
       go_quiet ((first | (go_at_call 21; refine (in_t a0 _ _).mono ?_; rintro e w' ⟨rfl, ⟨nd, rfl⟩⟩; (try first | exact ⟨rfl, _, World.drewN_drewN _ _ _⟩ | exact ⟨rfl, _, Eq.trans (World.drewN_drewN _ _ _) (congrArg (World.drewN _) (Nat.add_assoc _ _ _))⟩)) | (go_at_call 20; refine (num_t _ _ _ _ _).mono ?_; rintro e w' ⟨rfl, ⟨nd, rfl⟩⟩; (try first | exact ⟨rfl, _, World.drewN_drewN _ _ _⟩ | exact ⟨rfl, _, Eq.trans (World.drewN_drewN _ _ _) (congrArg (World.drewN _) (Nat.add_assoc _ _ _))⟩))))
       go_wp2
       go_meet
       case rel => exact ⟨false, rfl, ⟨by simp [q6]⟩, ⟨by (with_reducible repeat (first | refine blk_drewN ?_ _ | refine blk_drew ?_ | refine blk_alloc ?_ _)); exact BK.out⟩, ⟨by repeat (first | (with_reducible first | exact HB.out | apply below_alloc | apply pw_below_drewN | apply below_drew1 | refine below_set ?_ HG.out) | exact HB.out)⟩⟩
     | true =>
     cases q7 : numB (inB (hasS a0) 112) a8 0 1000 with
     | false =>
       go_quiet ((first | (go_at_call 21; refine (in_t a0 _ _).mono ?_; rintro e w' ⟨rfl, ⟨nd, rfl⟩⟩; (try first | exact ⟨rfl, _, World.drewN_drewN _ _ _⟩ | exact ⟨rfl, _, Eq.trans (World.drewN_drewN _ _ _) (congrArg (World.drewN _) (Nat.add_assoc _ _ _))⟩)) | (go_at_call 20; refine (num_t _ _ _ _ _).mono ?_; rintro e w' ⟨rfl, ⟨nd, rfl⟩⟩; (try first | exact ⟨rfl, _, World.drewN_drewN _ _ _⟩ | exact ⟨rfl, _, Eq.trans (World.drewN_drewN _ _ _) (congrArg (World.drewN _) (Nat.add_assoc _ _ _))⟩))))
       go_wp2
       go_meet
       case rel => exact ⟨false, rfl, ⟨by simp [q6, q7]⟩, ⟨by (with_reducible repeat (first | refine blk_drewN ?_ _ | refine blk_drew ?_ | refine blk_alloc ?_ _)); exact BK.out⟩, ⟨by repeat (first | (with_reducible first | exact HB.out | apply below_alloc | apply pw_below_drewN | apply below_drew1 | refine below_set ?_ HG.out) | exact HB.out)⟩⟩
     | true =>
     cases b6 with
     | false =>
       cases q9 : numB (inB (hasS a0) 98) (a9.size : Int) 1 16 with
       | false =>
         go_quiet ((first | (go_at_call 21; refine (in_t a0 _ _).mono ?_; rintro e w' ⟨rfl, ⟨nd, rfl⟩⟩; (try first | exact ⟨rfl, _, World.drewN_drewN _ _ _⟩ | exact ⟨rfl, _, Eq.trans (World.drewN_drewN _ _ _) (congrArg (World.drewN _) (Nat.add_assoc _ _ _))⟩)) | (go_at_call 20; refine (num_t _ _ _ _ _).mono ?_; rintro e w' ⟨rfl, ⟨nd, rfl⟩⟩; (try first | exact ⟨rfl, _, World.drewN_drewN _ _ _⟩ | exact ⟨rfl, _, Eq.trans (World.drewN_drewN _ _ _) (congrArg (World.drewN _) (Nat.add_assoc _ _ _))⟩))))
         go_wp2
         go_meet
         case rel => exact ⟨false, rfl, ⟨by simp [q6, q7, ← H6.out, q9]⟩, ⟨by (with_reducible repeat (first | refine blk_drewN ?_ _ | refine blk_drew ?_ | refine blk_alloc ?_ _)); exact BK.out⟩, ⟨by repeat (first | (with_reducible first | exact HB.out | apply below_alloc | apply pw_below_drewN | apply below_drew1 | refine below_set ?_ HG.out) | exact HB.out)⟩⟩
       | true =>
       cases q10 : inB (hasS a0) 101 with
       | true =>
         go_quiet ((first | (go_at_call 21; refine (in_t a0 _ _).mono ?_; rintro e w' ⟨rfl, ⟨nd, rfl⟩⟩; (try first | exact ⟨rfl, _, World.drewN_drewN _ _ _⟩ | exact ⟨rfl, _, Eq.trans (World.drewN_drewN _ _ _) (congrArg (World.drewN _) (Nat.add_assoc _ _ _))⟩)) | (go_at_call 20; refine (num_t _ _ _ _ _).mono ?_; rintro e w' ⟨rfl, ⟨nd, rfl⟩⟩; (try first | exact ⟨rfl, _, World.drewN_drewN _ _ _⟩ | exact ⟨rfl, _, Eq.trans (World.drewN_drewN _ _ _) (congrArg (World.drewN _) (Nat.add_assoc _ _ _))⟩))))
         go_wp2
         go_meet
         case rel => exact ⟨numB true (l.length : Int) 0 6, rfl, ⟨by simp [q6, q7, ← H6.out, q9, q10]⟩, ⟨by (with_reducible repeat (first | refine blk_drewN ?_ _ | refine blk_drew ?_ | refine blk_alloc ?_ _)); exact BK.out⟩, ⟨by repeat (first | (with_reducible first | exact HB.out | apply below_alloc | apply pw_below_drewN | apply below_drew1 | refine below_set ?_ HG.out) | exact HB.out)⟩⟩
       | false =>
       go_quiet ((first | (go_at_call 21; refine (in_t a0 _ _).mono ?_; rintro e w' ⟨rfl, ⟨nd, rfl⟩⟩; (try first | exact ⟨rfl, _, World.drewN_drewN _ _ _⟩ | exact ⟨rfl, _, Eq.trans (World.drewN_drewN _ _ _) (congrArg (World.drewN _) (Nat.add_assoc _ _ _))⟩)) | (go_at_call 20; refine (num_t _ _ _ _ _).mono ?_; rintro e w' ⟨rfl, ⟨nd, rfl⟩⟩; (try first | exact ⟨rfl, _, World.drewN_drewN _ _ _⟩ | exact ⟨rfl, _, Eq.trans (World.drewN_drewN _ _ _) (congrArg (World.drewN _) (Nat.add_assoc _ _ _))⟩))))
       go_wp2
       go_meet
       case rel => exact ⟨numB ((l.length : Int) == 0) (l.length : Int) 0 6, rfl, ⟨by simp [q6, q7, ← H6.out, q9, q10]⟩, ⟨by (with_reducible repeat (first | refine blk_drewN ?_ _ | refine blk_drew ?_ | refine blk_alloc ?_ _)); exact BK.out⟩, ⟨by repeat (first | (with_reducible first | exact HB.out | apply below_alloc | apply pw_below_drewN | apply below_drew1 | refine below_set ?_ HG.out) | exact HB.out)⟩⟩
     | true =>
     cases q8b : inB (hasS a0) 121 with
     | false =>
       go_quiet ((first | (go_at_call 21; refine (in_t a0 _ _).mono ?_; rintro e w' ⟨rfl, ⟨nd, rfl⟩⟩; (try first | exact ⟨rfl, _, World.drewN_drewN _ _ _⟩ | exact ⟨rfl, _, Eq.trans (World.drewN_drewN _ _ _) (congrArg (World.drewN _) (Nat.add_assoc _ _ _))⟩)) | (go_at_call 20; refine (num_t _ _ _ _ _).mono ?_; rintro e w' ⟨rfl, ⟨nd, rfl⟩⟩; (try first | exact ⟨rfl, _, World.drewN_drewN _ _ _⟩ | exact ⟨rfl, _, Eq.trans (World.drewN_drewN _ _ _) (congrArg (World.drewN _) (Nat.add_assoc _ _ _))⟩))))
       go_wp2
       go_meet
       case rel => exact ⟨false, rfl, ⟨by simp [q6, q7, ← H6.out, q8b]⟩, ⟨by (with_reducible repeat (first | refine blk_drewN ?_ _ | refine blk_drew ?_ | refine blk_alloc ?_ _)); exact BK.out⟩, ⟨by repeat (first | (with_reducible first | exact HB.out | apply below_alloc | apply pw_below_drewN | apply below_drew1 | refine below_set ?_ HG.out) | exact HB.out)⟩⟩
     | true =>
       cases q9 : numB (inB (hasS a0) 98) (a9.size : Int) 1 16 with
       | false =>
         go_quiet ((first | (go_at_call 21; refine (in_t a0 _ _).mono ?_; rintro e w' ⟨rfl, ⟨nd, rfl⟩⟩; (try first | exact ⟨rfl, _, World.drewN_drewN _ _ _⟩ | exact ⟨rfl, _, Eq.trans (World.drewN_drewN _ _ _) (congrArg (World.drewN _) (Nat.add_assoc _ _ _))⟩)) | (go_at_call 20; refine (num_t _ _ _ _ _).mono ?_; rintro e w' ⟨rfl, ⟨nd, rfl⟩⟩; (try first | exact ⟨rfl, _, World.drewN_drewN _ _ _⟩ | exact ⟨rfl, _, Eq.trans (World.drewN_drewN _ _ _) (congrArg (World.drewN _) (Nat.add_assoc _ _ _))⟩))))
         go_wp2
         go_meet
         case rel => exact ⟨false, rfl, ⟨by simp [q6, q7, ← H6.out, q8b, q9]⟩, ⟨by (with_reducible repeat (first | refine blk_drewN ?_ _ | refine blk_drew ?_ | refine blk_alloc ?_ _)); exact BK.out⟩, ⟨by repeat (first | (with_reducible first | exact HB.out | apply below_alloc | apply pw_below_drewN | apply below_drew1 | refine below_set ?_ HG.out) | exact HB.out)⟩⟩
       | true =>
       cases q10 : inB (hasS a0) 101 with
       | true =>
         go_quiet ((first | (go_at_call 21; refine (in_t a0 _ _).mono ?_; rintro e w' ⟨rfl, ⟨nd, rfl⟩⟩; (try first | exact ⟨rfl, _, World.drewN_drewN _ _ _⟩ | exact ⟨rfl, _, Eq.trans (World.drewN_drewN _ _ _) (congrArg (World.drewN _) (Nat.add_assoc _ _ _))⟩)) | (go_at_call 20; refine (num_t _ _ _ _ _).mono ?_; rintro e w' ⟨rfl, ⟨nd, rfl⟩⟩; (try first | exact ⟨rfl, _, World.drewN_drewN _ _ _⟩ | exact ⟨rfl, _, Eq.trans (World.drewN_drewN _ _ _) (congrArg (World.drewN _) (Nat.add_assoc _ _ _))⟩))))
         go_wp2
         go_meet
         case rel => exact ⟨numB true (l.length : Int) 0 6, rfl, ⟨by simp [q6, q7, ← H6.out, q8b, q9, q10]⟩, ⟨by (with_reducible repeat (first | refine blk_drewN ?_ _ | refine blk_drew ?_ | refine blk_alloc ?_ _)); exact BK.out⟩, ⟨by repeat (first | (with_reducible first | exact HB.out | apply below_alloc | apply pw_below_drewN | apply below_drew1 | refine below_set ?_ HG.out) | exact HB.out)⟩⟩
       | false =>
       go_quiet ((first | (go_at_call 21; refine (in_t a0 _ _).mono ?_; rintro e w' ⟨rfl, ⟨nd, rfl⟩⟩; (try first | exact ⟨rfl, _, World.drewN_drewN _ _ _⟩ | exact ⟨rfl, _, Eq.trans (World.drewN_drewN _ _ _) (congrArg (World.drewN _) (Nat.add_assoc _ _ _))⟩)) | (go_at_call 20; refine (num_t _ _ _ _ _).mono ?_; rintro e w' ⟨rfl, ⟨nd, rfl⟩⟩; (try first | exact ⟨rfl, _, World.drewN_drewN _ _ _⟩ | exact ⟨rfl, _, Eq.trans (World.drewN_drewN _ _ _) (congrArg (World.drewN _) (Nat.add_assoc _ _ _))⟩))))
       go_wp2
       go_meet
       case rel => exact ⟨numB ((l.length : Int) == 0) (l.length : Int) 0 6, rfl, ⟨by simp [q6, q7, ← H6.out, q8b, q9, q10]⟩, ⟨by (with_reducible repeat (first | refine blk_drewN ?_ _ | refine blk_drew ?_ | refine blk_alloc ?_ _)); exact BK.out⟩, ⟨by repeat (first | (with_reducible first | exact HB.out | apply below_alloc | apply pw_below_drewN | apply below_drew1 | refine below_set ?_ HG.out) | exact HB.out)⟩⟩
   case rest =>
    clear BK HB
    obtain ⟨b2, rfl, g2, BK, HB⟩ := hcut
    cases b2 with
    | false =>
      go_wp2
      go_ret
      exact ⟨by rw [fitsS, ← g1.out, ← g2.out]; rfl, HB.out⟩
    | true =>
    go_upto_region 7 with (fail)
    have BK2 := Aside0.mk (blk_alloc BK.out (.cells #[.int .i64 0, .int .i64 0, .int .i64 0, .int .i64 0, .string (⟨#[]⟩ : ByteArray)] 29))
    have HB2 := Aside0.mk (below_alloc HB.out (.cells #[.int .i64 0, .int .i64 0, .int .i64 0, .int .i64 0, .string (⟨#[]⟩ : ByteArray)] 29))
    have NK := Aside0.mk (blk_new wc (.cells #[.int .i64 0, .int .i64 0, .int .i64 0, .int .i64 0, .string (⟨#[]⟩ : ByteArray)] 29))
    clear BK HB
    have BK := BK2
    have HB := HB2
    clear BK2 HB2
    generalize World.alloc wc (.cells #[.int .i64 0, .int .i64 0, .int .i64 0, .int .i64 0, .string (⟨#[]⟩ : ByteArray)] 29) = w5 at BK HB NK ⊢
    generalize wc.heap.size = n4 at NK ⊢
    go_cut [117] (fun v wc => ∃ b : Bool, v = .bool (!b) ∧ Aside0 (b = (if inB (hasS a0) 100 then cOk a10 a11 a12 a13 a14 else (a10 == 0 && (a11 == 0 && (a12 == 0 && (a13 == 0 && a14.toList.isEmpty)))))) ∧ Aside0 (wc.heap[g]? = some (.cells #[.int .i64 a0, .int .i64 a1, .int .i64 a2, .int .i64 a3, .int .i64 a4, .int .i64 a5, .bool a6, .int .i64 a7, .int .i64 a8, .string a9, .int .i64 a10, .int .i64 a11, .int .i64 a12, .int .i64 a13, .string a14, .slice A l.length c] 32 (0, 0))) ∧ Aside0 (Below w.heap.size w wc))
    case first =>
      have hcz10 : w5.cell? ⟨g, 10, none⟩ = some (.int .i64 a10) := (blk_cell BK.out 10).trans rfl
      have hcz11 : w5.cell? ⟨g, 11, none⟩ = some (.int .i64 a11) := (blk_cell BK.out 11).trans rfl
      have hcz12 : w5.cell? ⟨g, 12, none⟩ = some (.int .i64 a12) := (blk_cell BK.out 12).trans rfl
      have hcz13 : w5.cell? ⟨g, 13, none⟩ = some (.int .i64 a13) := (blk_cell BK.out 13).trans rfl
      have hcz14 : w5.cell? ⟨g, 14, none⟩ = some (.string a14) := (blk_cell BK.out 14).trans rfl
      have nz0 : w5.cell? ⟨n4, 0, none⟩ = some (.int .i64 0) := (blk_cell NK.out 0).trans rfl
      have nz1 : w5.cell? ⟨n4, 1, none⟩ = some (.int .i64 0) := (blk_cell NK.out 1).trans rfl
      have nz2 : w5.cell? ⟨n4, 2, none⟩ = some (.int .i64 0) := (blk_cell NK.out 2).trans rfl
      have nz3 : w5.cell? ⟨n4, 3, none⟩ = some (.int .i64 0) := (blk_cell NK.out 3).trans rfl
      have nz4 : w5.cell? ⟨n4, 4, none⟩ = some (.string (⟨#[]⟩ : ByteArray)) := (blk_cell NK.out 4).trans rfl
      cases q11 : inB (hasS a0) 100 with
      | true =>
        cases q12 : cOk a10 a11 a12 a13 a14 with
        | false =>
          go_wp2_with (first | (go_at_call 21; refine (in_t a0 _ _).mono ?_; rintro e w' ⟨rfl, ⟨nd, rfl⟩⟩) | (go_at_call 22; refine (cmd_t a10 a11 a12 a13 a14 _).mono ?_; rintro e w6 ⟨rfl, hb⟩; have BK2 := Aside0.mk (blk_below (blk_drewN BK.out _) hb); have HB2 := Aside0.mk (below_step (pw_below_drewN HB.out _) hb); clear BK HB hb; have BK := BK2; have HB := HB2; clear BK2 HB2))
          go_meet
          case rel => exact ⟨false, rfl, ⟨by simp [q11, q12]⟩, ⟨by (with_reducible repeat (first | refine blk_drewN ?_ _ | refine blk_drew ?_ | refine blk_alloc ?_ _)); exact BK.out⟩, ⟨by repeat (first | (with_reducible first | exact HB.out | apply below_alloc | apply pw_below_drewN | apply below_drew1 | refine below_set ?_ HG.out) | exact HB.out)⟩⟩
        | true =>
          go_wp2_with (first | (go_at_call 21; refine (in_t a0 _ _).mono ?_; rintro e w' ⟨rfl, ⟨nd, rfl⟩⟩) | (go_at_call 22; refine (cmd_t a10 a11 a12 a13 a14 _).mono ?_; rintro e w6 ⟨rfl, hb⟩; have BK2 := Aside0.mk (blk_below (blk_drewN BK.out _) hb); have HB2 := Aside0.mk (below_step (pw_below_drewN HB.out _) hb); clear BK HB hb; have BK := BK2; have HB := HB2; clear BK2 HB2))
          go_meet
          case rel => exact ⟨true, rfl, ⟨by simp [q11, q12]⟩, ⟨by (with_reducible repeat (first | refine blk_drewN ?_ _ | refine blk_drew ?_ | refine blk_alloc ?_ _)); exact BK.out⟩, ⟨by repeat (first | (with_reducible first | exact HB.out | apply below_alloc | apply pw_below_drewN | apply below_drew1 | refine below_set ?_ HG.out) | exact HB.out)⟩⟩
      | false =>
        go_wp2_with (first | (go_at_call 21; refine (in_t a0 _ _).mono ?_; rintro e w' ⟨rfl, ⟨nd, rfl⟩⟩) | (go_at_call 22; refine (cmd_t a10 a11 a12 a13 a14 _).mono ?_; rintro e w6 ⟨rfl, hb⟩; have BK2 := Aside0.mk (blk_below (blk_drewN BK.out _) hb); have HB2 := Aside0.mk (below_step (pw_below_drewN HB.out _) hb); clear BK HB hb; have BK := BK2; have HB := HB2; clear BK2 HB2))
        go_meet
        case rel => exact ⟨(a10 == 0 && (a11 == 0 && (a12 == 0 && (a13 == 0 && a14.toList.isEmpty)))), congrArg Value.bool (by simp only [Bool.not_and]), ⟨by simp [q11]⟩, ⟨by (with_reducible repeat (first | refine blk_drewN ?_ _ | refine blk_drew ?_ | refine blk_alloc ?_ _)); exact BK.out⟩, ⟨by repeat (first | (with_reducible first | exact HB.out | apply below_alloc | apply pw_below_drewN | apply below_drew1 | refine below_set ?_ HG.out) | exact HB.out)⟩⟩
    case rest =>
     clear BK HB NK
     obtain ⟨b3, rfl, g3, BK, HB⟩ := hcut
     cases b3 with
     | false =>
       go_wp2
       go_ret
       exact ⟨by rw [fitsS, ← g1.out, ← g2.out, ← g3.out]; rfl, HB.out⟩
     | true =>
     go_wp2
     go_loopg [5] l.length (fun gg s5 wr => ∃ i : Nat, i ≤ l.length ∧ l.length - i ≤ gg ∧ s5 = .int .i64 i ∧ Aside0 (wr.heap[g]? = some (.cells #[.int .i64 a0, .int .i64 a1, .int .i64 a2, .int .i64 a3, .int .i64 a4, .int .i64 a5, .bool a6, .int .i64 a7, .int .i64 a8, .string a9, .int .i64 a10, .int .i64 a11, .int .i64 a12, .int .i64 a13, .string a14, .slice A l.length c] 32 (0, 0))) ∧ Aside0 (Below w.heap.size w wr) ∧ Aside0 ((l.drop i).all entT = l.all entT))
     case atStart => exact ⟨0, Nat.zero_le _, by omega, rfl, BK, HB, ⟨rfl⟩⟩
     case round =>
      clear BK HB
      obtain ⟨i, hi, hgg, rfl, BK, HB, AL⟩ := hrel
      have hcz15 : wr.cell? ⟨g, 15, none⟩ = some (.slice A l.length c) := (blk_cell BK.out 15).trans rfl
      have hlm := HLM.out
      by_cases hlt : i < l.length
      · have hltz : (i : Int) < (l.length : Int) := by omega
        obtain ⟨ad, rfl, h0, h1, h2, h3, h4, h5⟩ := at_T40 (Kd.C_below HR.out HB.out) (i : Int) (by omega) hltz
        simp only [Int.toNat_natCast] at h0 h1 h2 h3 h4 h5
        have D : Aside0 ((l.drop i).all entT = (entT (rd_T40 l i) && (l.drop (i + 1)).all entT)) := ⟨by rw [List.drop_eq_getElem_cons hlt, List.all_cons, show rd_T40 l (i : Int) = l[i] by unfold rd_T40; rw [List.getD_eq_getElem?_getD, Int.toNat_natCast, List.getElem?_eq_getElem hlt]; rfl]⟩
        have hcall := ent_t (rd_T40 l i) wr
        generalize hy : rd_T40 l (i : Int) = y at h0 h1 h2 h3 h4 h5 hcall D
        clear hy
        cases hq : entT y with
        | false =>
          rw [hq] at hcall D
          go_wp2_with (go_at_call 23; refine hcall.mono ?_; rintro e w' ⟨rfl, hb'⟩)
          go_ret
          exact ⟨by rw [fitsS, ← AL.out, D.out, Bool.false_and, Bool.and_false, Bool.and_false, Bool.and_false]; rfl, below_step HB.out hb'⟩
        | true =>
          rw [hq] at hcall D
          go_wp2_with (go_at_call 23; refine hcall.mono ?_; rintro e w' ⟨rfl, hb'⟩)
          go_roundg (l.length - (i + 1))
          case measure => omega
          case rel => exact ⟨i + 1, by omega, by omega, by go_num, ⟨blk_below BK.out hb'⟩, ⟨below_step HB.out hb'⟩, ⟨by rw [← AL.out, D.out, Bool.true_and]⟩⟩
      · have hltz : ¬ (i : Int) < (l.length : Int) := by omega
        have : i = l.length := by omega
        subst this
        go_wp2
        go_ret
        exact ⟨by rw [fitsS, ← g1.out, ← g2.out, ← g3.out, ← AL.out, List.drop_length]; rfl, HB.out⟩

end Go.Proofs.Ytngilepbpfdigaa.QFnExactMsgFits
