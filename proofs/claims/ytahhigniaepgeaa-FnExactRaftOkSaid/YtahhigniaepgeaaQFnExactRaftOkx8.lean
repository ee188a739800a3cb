-- Written by a program of this session (wip/xprint.py), which turns a copy of the kit's print: its own text, no printed one.
import Derived.Test.YtahhigniaepgeaaQFnExactRaftOkx0
import Derived.Test.YtahhigniaepgeaaQFnExactRaftOkx1
import Derived.Test.YtahhigniaepgeaaQFnExactRaftOkx7
namespace Go.Proofs.Ytahhigniaepgeaa.QFnExactRaftOk
open Go.RowKit Go.Proofs.YtahhigniaepgeaaW.PrintWords Go.Proofs.YtahhigniaepgeaaW.PrintLast Go.Proofs.YtahhigniaepgeaaW.PrintMore
attribute [local go_sem] max2_int min2_int max_two min_two max_three min_three max_four min_four   -- for this text's walks alone
set_option linter.unusedVariables false
set_option linter.unusedSimpArgs false

attribute [local go_sem high] eqA62
/-! ### impl_CmdOk: function 44 -/
def impl_CmdOk.f (a0_0 : Int) (a0_1 : Int) (a0_2 : Int) (a0_3 : Int) (a0_4 : ByteArray) : Option (Bool) := (impl_isRelease.f a0_1).bind fun t207 => (if a0_0 = 1 then (if a0_1 = 0 then (some (a0_2 == 0 && (a0_3 == 0 && (a0_4.toList == ([] : List UInt8))))) else (some false)) else (if a0_0 = 2 then (if t207 = true then ((impl_isSize.f a0_3).bind fun t208 => (if t208 = true then (if (a0_4.size : Int) = 32 then (some (a0_2 == 0)) else (some false)) else (some false))) else (some false)) else (if a0_0 = 3 then (if t207 = true then ((impl_isNode.f a0_2).bind fun t209 => (if t209 = true then (some (a0_3 == 0 && (a0_4.toList == ([] : List UInt8)))) else (some false))) else (some false)) else (if a0_0 = 4 then (if t207 = true then (some (a0_2 == 0 && (a0_3 == 0 && (a0_4.toList == ([] : List UInt8))))) else (some false)) else (if a0_0 = 5 then (if t207 = true then (some (a0_2 == 0 && (a0_3 == 0 && (a0_4.toList == ([] : List UInt8))))) else (some false)) else (some false))))))
set_option maxHeartbeats 8000000 in
theorem impl_CmdOk.calls (a0_0 : Int) (a0_1 : Int) (a0_2 : Int) (a0_3 : Int) (a0_4 : ByteArray) (r : Bool) (w : World) (h : impl_CmdOk.f a0_0 a0_1 a0_2 a0_3 a0_4 = some r) :
  Calls Try.prog 44 #[.agg #[.int .i64 a0_0, .int .i64 a0_1, .int .i64 a0_2, .int .i64 a0_3, .string a0_4]] w fun e w' => e = .returned (.bool r) ∧ Below w.heap.size w w' := by
 unfold impl_CmdOk.f at h
 obtain ⟨t, A0, H⟩ := Option.bind_eq_some_iff.mp h
 have A := Aside0.mk A0
 clear A0 h
 by_cases k1 : a0_0 = 1
 ·rw [if_pos k1] at H
  subst k1
  by_cases c1 : a0_1 = 0
  ·rw [if_pos c1] at H
   have hc : (a0_1 == 0) = true := beq_iff_eq.mpr c1
   clear c1
   obtain rfl := Option.some.inj H
   go_enter Try.func44, Try.ntmps44
   go_wp2_with (go_at_call 55; refine (impl_isRelease.calls a0_1 t _ A.out).mono ?_; rintro e w' ⟨rfl, ⟨n, rfl⟩⟩)
   go_ret
   exact ⟨by first | rfl | simp, by repeat (first | exact Below.refl _ _ | apply pw_below_drewN | apply below_drew1 | apply below_alloc | refine below_set ?_ (Nat.le_add_right _ 1))⟩
  ·rw [if_neg c1] at H
   have hc : (a0_1 == 0) = false := beq_eq_false_iff_ne.mpr c1
   clear c1
   obtain rfl := Option.some.inj H
   go_enter Try.func44, Try.ntmps44
   go_wp2_with (go_at_call 55; refine (impl_isRelease.calls a0_1 t _ A.out).mono ?_; rintro e w' ⟨rfl, ⟨n, rfl⟩⟩)
   go_ret
   exact ⟨by first | rfl | simp, by repeat (first | exact Below.refl _ _ | apply pw_below_drewN | apply below_drew1 | apply below_alloc | refine below_set ?_ (Nat.le_add_right _ 1))⟩
 rw [if_neg k1] at H
 have hk1 : (a0_0 == 1) = false := beq_eq_false_iff_ne.mpr k1
 clear k1
 by_cases k2 : a0_0 = 2
 ·rw [if_pos k2] at H
  subst k2
  clear hk1
  cases t with
  | false =>
   obtain rfl := Option.some.inj ((if_neg (by decide)).symm.trans H)
   go_enter Try.func44, Try.ntmps44
   go_wp2_with (go_at_call 55; refine (impl_isRelease.calls a0_1 _ _ A.out).mono ?_; rintro e w' ⟨rfl, ⟨n, rfl⟩⟩)
   go_ret
   exact ⟨by first | rfl | simp, by repeat (first | exact Below.refl _ _ | apply pw_below_drewN | apply below_drew1 | apply below_alloc | refine below_set ?_ (Nat.le_add_right _ 1))⟩
  | true =>
   rw [if_pos rfl] at H
   obtain ⟨t2, B0, H⟩ := Option.bind_eq_some_iff.mp H
   have B := Aside0.mk B0
   clear B0
   cases t2 with
   | false =>
    obtain rfl := Option.some.inj ((if_neg (by decide)).symm.trans H)
    go_enter Try.func44, Try.ntmps44
    go_wp2_with (first | (go_at_call 55; refine (impl_isRelease.calls a0_1 _ _ A.out).mono ?_; rintro e w' ⟨rfl, ⟨n, rfl⟩⟩) | (go_at_call 56; refine (impl_isSize.calls a0_3 _ _ B.out).mono ?_; rintro e w' ⟨rfl, ⟨n, rfl⟩⟩))
    go_ret
    exact ⟨by first | rfl | simp, by repeat (first | exact Below.refl _ _ | apply pw_below_drewN | apply below_drew1 | apply below_alloc | refine below_set ?_ (Nat.le_add_right _ 1))⟩
   | true =>
    rw [if_pos rfl] at H
    by_cases c1 : (a0_4.size : Int) = 32
    ·rw [if_pos c1] at H
     have hc : ((a0_4.size : Int) == 32) = true := beq_iff_eq.mpr c1
     clear c1
     obtain rfl := Option.some.inj H
     go_enter Try.func44, Try.ntmps44
     go_wp2_with (first | (go_at_call 55; refine (impl_isRelease.calls a0_1 _ _ A.out).mono ?_; rintro e w' ⟨rfl, ⟨n, rfl⟩⟩) | (go_at_call 56; refine (impl_isSize.calls a0_3 _ _ B.out).mono ?_; rintro e w' ⟨rfl, ⟨n, rfl⟩⟩))
     go_ret
     exact ⟨by first | rfl | simp, by repeat (first | exact Below.refl _ _ | apply pw_below_drewN | apply below_drew1 | apply below_alloc | refine below_set ?_ (Nat.le_add_right _ 1))⟩
    ·rw [if_neg c1] at H
     have hc : ((a0_4.size : Int) == 32) = false := beq_eq_false_iff_ne.mpr c1
     clear c1
     obtain rfl := Option.some.inj H
     go_enter Try.func44, Try.ntmps44
     go_wp2_with (first | (go_at_call 55; refine (impl_isRelease.calls a0_1 _ _ A.out).mono ?_; rintro e w' ⟨rfl, ⟨n, rfl⟩⟩) | (go_at_call 56; refine (impl_isSize.calls a0_3 _ _ B.out).mono ?_; rintro e w' ⟨rfl, ⟨n, rfl⟩⟩))
     go_ret
     exact ⟨by first | rfl | simp, by repeat (first | exact Below.refl _ _ | apply pw_below_drewN | apply below_drew1 | apply below_alloc | refine below_set ?_ (Nat.le_add_right _ 1))⟩
 rw [if_neg k2] at H
 have hk2 : (a0_0 == 2) = false := beq_eq_false_iff_ne.mpr k2
 clear k2
 by_cases k3 : a0_0 = 3
 ·rw [if_pos k3] at H
  subst k3
  clear hk1 hk2
  cases t with
  | false =>
   obtain rfl := Option.some.inj ((if_neg (by decide)).symm.trans H)
   go_enter Try.func44, Try.ntmps44
   go_wp2_with (go_at_call 55; refine (impl_isRelease.calls a0_1 _ _ A.out).mono ?_; rintro e w' ⟨rfl, ⟨n, rfl⟩⟩)
   go_ret
   exact ⟨by first | rfl | simp, by repeat (first | exact Below.refl _ _ | apply pw_below_drewN | apply below_drew1 | apply below_alloc | refine below_set ?_ (Nat.le_add_right _ 1))⟩
  | true =>
   rw [if_pos rfl] at H
   obtain ⟨t2, B0, H⟩ := Option.bind_eq_some_iff.mp H
   have B := Aside0.mk B0
   clear B0
   cases t2 with
   | false =>
    obtain rfl := Option.some.inj ((if_neg (by decide)).symm.trans H)
    go_enter Try.func44, Try.ntmps44
    go_wp2_with (first | (go_at_call 55; refine (impl_isRelease.calls a0_1 _ _ A.out).mono ?_; rintro e w' ⟨rfl, ⟨n, rfl⟩⟩) | (go_at_call 57; refine (impl_isNode.calls a0_2 _ _ B.out).mono ?_; rintro e w' ⟨rfl, ⟨n, rfl⟩⟩))
    go_ret
    exact ⟨by first | rfl | simp, by repeat (first | exact Below.refl _ _ | apply pw_below_drewN | apply below_drew1 | apply below_alloc | refine below_set ?_ (Nat.le_add_right _ 1))⟩
   | true =>
    obtain rfl := Option.some.inj ((if_pos rfl).symm.trans H)
    go_enter Try.func44, Try.ntmps44
    go_wp2_with (first | (go_at_call 55; refine (impl_isRelease.calls a0_1 _ _ A.out).mono ?_; rintro e w' ⟨rfl, ⟨n, rfl⟩⟩) | (go_at_call 57; refine (impl_isNode.calls a0_2 _ _ B.out).mono ?_; rintro e w' ⟨rfl, ⟨n, rfl⟩⟩))
    go_ret
    exact ⟨by first | rfl | simp, by repeat (first | exact Below.refl _ _ | apply pw_below_drewN | apply below_drew1 | apply below_alloc | refine below_set ?_ (Nat.le_add_right _ 1))⟩
 rw [if_neg k3] at H
 have hk3 : (a0_0 == 3) = false := beq_eq_false_iff_ne.mpr k3
 clear k3
 by_cases k4 : a0_0 = 4
 ·rw [if_pos k4] at H
  subst k4
  clear hk1 hk2 hk3
  cases t with
  | false =>
   obtain rfl := Option.some.inj ((if_neg (by decide)).symm.trans H)
   go_enter Try.func44, Try.ntmps44
   go_wp2_with (go_at_call 55; refine (impl_isRelease.calls a0_1 _ _ A.out).mono ?_; rintro e w' ⟨rfl, ⟨n, rfl⟩⟩)
   go_ret
   exact ⟨by first | rfl | simp, by repeat (first | exact Below.refl _ _ | apply pw_below_drewN | apply below_drew1 | apply below_alloc | refine below_set ?_ (Nat.le_add_right _ 1))⟩
  | true =>
   obtain rfl := Option.some.inj ((if_pos rfl).symm.trans H)
   go_enter Try.func44, Try.ntmps44
   go_wp2_with (go_at_call 55; refine (impl_isRelease.calls a0_1 _ _ A.out).mono ?_; rintro e w' ⟨rfl, ⟨n, rfl⟩⟩)
   go_ret
   exact ⟨by first | rfl | simp, by repeat (first | exact Below.refl _ _ | apply pw_below_drewN | apply below_drew1 | apply below_alloc | refine below_set ?_ (Nat.le_add_right _ 1))⟩
 rw [if_neg k4] at H
 have hk4 : (a0_0 == 4) = false := beq_eq_false_iff_ne.mpr k4
 clear k4
 by_cases k5 : a0_0 = 5
 ·rw [if_pos k5] at H
  subst k5
  clear hk1 hk2 hk3 hk4
  cases t with
  | false =>
   obtain rfl := Option.some.inj ((if_neg (by decide)).symm.trans H)
   go_enter Try.func44, Try.ntmps44
   go_wp2_with (go_at_call 55; refine (impl_isRelease.calls a0_1 _ _ A.out).mono ?_; rintro e w' ⟨rfl, ⟨n, rfl⟩⟩)
   go_ret
   exact ⟨by first | rfl | simp, by repeat (first | exact Below.refl _ _ | apply pw_below_drewN | apply below_drew1 | apply below_alloc | refine below_set ?_ (Nat.le_add_right _ 1))⟩
  | true =>
   obtain rfl := Option.some.inj ((if_pos rfl).symm.trans H)
   go_enter Try.func44, Try.ntmps44
   go_wp2_with (go_at_call 55; refine (impl_isRelease.calls a0_1 _ _ A.out).mono ?_; rintro e w' ⟨rfl, ⟨n, rfl⟩⟩)
   go_ret
   exact ⟨by first | rfl | simp, by repeat (first | exact Below.refl _ _ | apply pw_below_drewN | apply below_drew1 | apply below_alloc | refine below_set ?_ (Nat.le_add_right _ 1))⟩
 rw [if_neg k5] at H
 have hk5 : (a0_0 == 5) = false := beq_eq_false_iff_ne.mpr k5
 clear k5
 obtain rfl := Option.some.inj H
 go_enter Try.func44, Try.ntmps44
 go_wp2_with (go_at_call 55; refine (impl_isRelease.calls a0_1 _ _ A.out).mono ?_; rintro e w' ⟨rfl, ⟨n, rfl⟩⟩)
 go_ret
 exact ⟨by first | rfl | simp, by repeat (first | exact Below.refl _ _ | apply pw_below_drewN | apply below_drew1 | apply below_alloc | refine below_set ?_ (Nat.le_add_right _ 1))⟩

/-! ### impl_lastTerm: function 45 -/
def impl_lastTerm.f (l0 : List (S64)) : Option (Int) := if (l0.length : Int) = 0 then (some 0) else (if 0 ≤ (wrap64 ((l0.length : Int) - 1)) then (if (wrap64 ((l0.length : Int) - 1)) < (l0.length : Int) then (some ((rd_T64 l0 (wrap64 ((l0.length : Int) - 1))).f0)) else (none)) else (none))
set_option maxHeartbeats 8000000 in
set_option maxRecDepth 100000 in
theorem impl_lastTerm.calls (A0 : Option Addr) (c0 : Nat) (l0 : List (S64)) (r : Int) (w : World) (hr0 : Kd.C k64 w A0 l0.length l0) (hc0 : l0.length ≤ c0) (h : impl_lastTerm.f l0 = some r) :
  Calls Try.prog 45 #[.slice A0 l0.length c0] w fun e w' => e = .returned (.int .i64 r) ∧ Drawn0 w w' := by
 have HR0 := Aside0.mk hr0
 have HC0 := Aside0.mk hc0
 clear hr0 hc0
 have H : (if (l0.length : Int) = 0 then (some 0) else (if 0 ≤ (wrap64 ((l0.length : Int) - 1)) then (if (wrap64 ((l0.length : Int) - 1)) < (l0.length : Int) then (some ((rd_T64 l0 (wrap64 ((l0.length : Int) - 1))).f0)) else (none)) else (none))) = some r := h
 clear h
 go_enter Try.func45, Try.ntmps45
 go_upto_if 5 with (fail)
 by_cases c2 : (l0.length : Int) = 0
 ·rw [if_pos c2] at H
  have c2b0 : ((l0.length : Int) == 0) = true := beq_iff_eq.mpr c2
  have c2b1 : ((l0.length : Int) != 0) = false := bne_eq_false_iff_eq.mpr c2
  clear c2
  (first | rw [c2b0] | (simp only [i64_w, i32_w]; rw [c2b0]) | skip)
  obtain rfl := Option.some.inj H
  go_wp2
  go_ret
  exact ⟨by first | rfl | (simp; done) | (simp [*]; done), by repeat (first | exact Drawn0.refl _ | apply Drawn0.step)⟩
 ·rw [if_neg c2] at H
  have c2b0 : ((l0.length : Int) == 0) = false := beq_eq_false_iff_ne.mpr c2
  have c2b1 : ((l0.length : Int) != 0) = true := bne_iff_ne.mpr c2
  have c2b2 : ¬ (l0 = []) := fun h_ => c2 (by rw [h_]; rfl)
  (first | rw [c2b0] | (simp only [i64_w, i32_w]; rw [c2b0]) | skip)
  obtain ⟨ji3, hji3⟩ : ∃ j_ : Int, (wrap64 ((l0.length : Int) - 1)) = j_ := ⟨_, rfl⟩
  replace H : (if 0 ≤ (ji3) then (if (ji3) < (l0.length : Int) then (some ((rd_T64 l0 (ji3)).f0)) else (none)) else (none)) = some r := by first | (rw [hji3] at H; exact H) | (simp only [hji3] at H ⊢; exact H)
  have hji3w : (IntKind.i64.wrap ((l0.length : Int) - 1)) = ji3 := (i64_w _).trans hji3
  by_cases c4 : 0 ≤ (ji3)
  ·rw [if_pos c4] at H
   have c4b0 : decide (0 ≤ (ji3)) = true := decide_eq_true c4
   clear c4
   by_cases c5 : (ji3) < (l0.length : Int)
   ·rw [if_pos c5] at H
    have c5b0 : decide ((ji3) < (l0.length : Int)) = true := decide_eq_true c5
    clear c5
    obtain rfl := Option.some.inj H
    have p210 : 0 ≤ ((ji3) : Int) := of_decide_eq_true (by first | (with_reducible assumption) | assumption)
    have q210 : (ji3) < (l0.length : Int) := of_decide_eq_true (by first | (with_reducible assumption) | assumption)
    obtain ⟨ad210, e210, hx210_0, hx210_1, hx210_2, hx210_3, hx210_4, hx210_5⟩ := at_T64 HR0.out (ji3) p210 q210
    cases e210
    replace p210 := eq_true p210
    replace q210 := eq_true q210
    go_wp2
    go_ret
    exact ⟨by first | rfl | (simp; done) | (simp only [← hji3] <;> (first | rfl | simp)) | (simp [*]; done), by repeat (first | exact Drawn0.refl _ | apply Drawn0.step)⟩
   ·rw [if_neg c5] at H
    exact absurd H (by simp)
  ·rw [if_neg c4] at H
   exact absurd H (by simp)

/-! ### impl_isWhole: function 46 -/
def impl_isWhole.f (a0 : Int) : Option (Bool) := (impl_within.f a0 0 1000000000).bind fun t211 => (some t211)
set_option maxHeartbeats 8000000 in
set_option maxRecDepth 100000 in
theorem impl_isWhole.calls (a0 : Int) (r : Bool) (w : World) (h : impl_isWhole.f a0 = some r) :
  Calls Try.prog 46 #[.int .i64 a0] w fun e w' => e = .returned (.bool r) ∧ Drawn0 w w' := by
 have H : ((impl_within.f a0 0 1000000000).bind fun t211 => (some t211)) = some r := h
 clear h
 replace H := Option.bind_eq_some_iff.mp H
 obtain ⟨t211, A20, H⟩ := H
 replace H : (some t211) = some r := H
 have A2 := Aside0.mk A20
 clear A20
 obtain rfl := Option.some.inj H
 go_enter Try.func46, Try.ntmps46
 go_wp2_with (first | ((with_reducible refine gate_callee (f := 27) rfl ?_); refine goesL_ (some 4) rfl rfl Try.func27 (by kernel_rfl) rfl #[.int .i64 a0, .int .i64 0, .int .i64 1000000000] rfl (by (try simp only [List.map_toArray, List.map_cons, List.map_nil]); first | done | rfl | (simp only [List.length_drop, List.length_take]; rfl)) ?_; (with_reducible refine (impl_within.calls a0 0 1000000000 t211 _ A2.out).mono ?_); rintro e w' ⟨rfl, ⟨nd, rfl⟩⟩; refine ⟨_, rfl, ?_⟩))
 go_ret
 exact ⟨by first | rfl | (simp; done) | (simp [*]; done), by repeat (first | exact Drawn0.refl _ | apply Drawn0.step)⟩

end Go.Proofs.Ytahhigniaepgeaa.QFnExactRaftOk
