-- Written by a program of this session (wip/xprint.py), which turns a copy of the kit's print: its own text, no printed one.
import Derived.Test.YtffchioimceemaaQFnExactZoneOfx0
import Derived.Test.YtffchioimceemaaQFnExactZoneOfx1
import Derived.Test.YtffchioimceemaaQFnExactZoneOfx2
import Derived.Test.YtffchioimceemaaQFnExactZoneOfx4
namespace Go.Proofs.Ytffchioimceemaa.QFnExactZoneOf
open Go.RowKit Go.Proofs.YtffchioimceemaaW.PrintWords Go.Proofs.YtffchioimceemaaW.PrintLast Go.Proofs.YtffchioimceemaaW.PrintMore
attribute [local go_sem] max2_int min2_int max_two min_two max_three min_three max_four min_four   -- for this text's walks alone
set_option linter.unusedVariables false
set_option linter.unusedSimpArgs false

theorem p5_ {P : Program} {md : Region.Mode} {ops : Array Oper} {Q : Exit → Act → World → Prop} {S : World → Prop} {ds : List Nat} {oi : Oper} {v : Value} {fuel : Nat} {l : Array Bool} {a a' : Act} {w : World} (i : Nat) (N : Option Tmp) (l' : Array Bool) (hc : anyB md ops l l' i = true) (h : wpAnyLast P md ops Q S ds fuel l' a' w)
  (hi : ops[i]? = some oi := by exact rfl) (hN : oi.dst = N := by exact rfl) (hQ : ∀ c a w, Q (.panic c) (a.put oi.dst v) w → Q (.panic c) a w := by exact fun _ _ _ h => h)
  (hy : Yields P ops oi v a := by (refine Or.inl ⟨by rfl, ?_⟩; intro w'; go_simp; with_reducible rfl)) (ha : a.put N v = a' := by (simp only [Act.put, List.setIfInBounds_toArray, List.set_cons_zero, List.set_cons_succ, i64_w, i32_w]; rfl)) :
  wpAnyLast P md ops Q S ds (fuel + 1) l a w := pure_ l' hi hN hc hQ hy ha h

/-! ### spec_SourceOk: function 11 -/
mutual
def spec_SourceOk.j0 : Nat → Bool → List (S59) → List (S29) → List (S47) → Option (Bool)
 | 0, _, _, _, _ => none
 | k + 1, x22, x139000, x139001, x139002 => if x22 = true then (some false) else (spec_SourceOk.l0 k 0 x139000 x139001 x139002 x139000)
def spec_SourceOk.l0 : Nat → Int → List (S59) → List (S29) → List (S47) → List (S59) → Option (Bool)
 | 0, _, _, _, _, _ => none
 | k + 1, x4, x139000, x139001, x139002, x140000 => if x4 < (x139000.length : Int) then (if 0 ≤ x4 then ((spec_l12RuleOk.f ((rd_T59 x139000 x4).f0) ((rd_T59 x139000 x4).f1) ((rd_T59 x139000 x4).f2) ((rd_T59 x139000 x4).f3) ((rd_T59 x139000 x4).f4.f0) ((rd_T59 x139000 x4).f4.f1) ((rd_T59 x139000 x4).f4.f2) ((rd_T59 x139000 x4).f5) ((rd_T59 x139000 x4).f6)).bind fun t141 => (if t141 = true then (spec_SourceOk.l0 k (wrap64 (x4 + 1)) x139000 x139001 x139002 x140000) else (some false))) else (none)) else (spec_SourceOk.l1 k 0 x139000 x139001 x139002 x140000 ([] : List (S29)))
def spec_SourceOk.l1 : Nat → Int → List (S59) → List (S29) → List (S47) → List (S59) → List (S29) → Option (Bool)
 | 0, _, _, _, _, _, _ => none
 | k + 1, x5, x139000, x139001, x139002, x140000, x140001 => if x5 < (x139001.length : Int) then (if 0 ≤ x5 then ((spec_l12Zone.f k x140000 x140001 ([] : List (S47)) ((rd_T29 x139001 x5).f0) ((rd_T29 x139001 x5).f1) ((rd_T29 x139001 x5).f2)).bind fun t143 => (if t143 = true then (if 0 ≤ (wrap64 (x5 + 1)) then (if (wrap64 (x5 + 1)) ≤ (x139001.length : Int) then (spec_SourceOk.l1 k (wrap64 (x5 + 1)) x139000 x139001 x139002 x140000 (x139001.take ((wrap64 (x5 + 1)) : Int).toNat)) else (none)) else (none)) else (some false))) else (none)) else (spec_SourceOk.l2 k 0 x139000 x139001 x139002 x140000 x140001 ([] : List (S47)))
def spec_SourceOk.l2 : Nat → Int → List (S59) → List (S29) → List (S47) → List (S59) → List (S29) → List (S47) → Option (Bool)
 | 0, _, _, _, _, _, _, _ => none
 | k + 1, x6, x139000, x139001, x139002, x140000, x140001, x140002 => if x6 < (x139002.length : Int) then (if 0 ≤ x6 then ((spec_l12Link.f k x140000 x140001 x140002 ((rd_T47 x139002 x6).f0) ((rd_T47 x139002 x6).f1)).bind fun t150 => (if t150 = true then (if 0 ≤ (wrap64 (x6 + 1)) then (if (wrap64 (x6 + 1)) ≤ (x139002.length : Int) then (spec_SourceOk.l2 k (wrap64 (x6 + 1)) x139000 x139001 x139002 x140000 x140001 (x139002.take ((wrap64 (x6 + 1)) : Int).toNat)) else (none)) else (none)) else (some false))) else (none)) else (some true)
end
def spec_SourceOk.f (k : Nat) (l0_0 : List (S59)) (l0_1 : List (S29)) (l0_2 : List (S47)) : Option (Bool) := if (l0_0.length : Int) > 20 then (spec_SourceOk.j0 k true l0_0 l0_1 l0_2) else (if (l0_1.length : Int) > 26 then (spec_SourceOk.j0 k true l0_0 l0_1 l0_2) else (spec_SourceOk.j0 k (decide ((l0_2.length : Int) > 26)) l0_0 l0_1 l0_2))
theorem spec_SourceOk.mono_l : ∀ k, (∀ y0 y1 y2 y3, LeO (spec_SourceOk.j0 k y0 y1 y2 y3) (spec_SourceOk.j0 (k + 1) y0 y1 y2 y3)) ∧ (∀ y0 y1 y2 y3 y4, LeO (spec_SourceOk.l0 k y0 y1 y2 y3 y4) (spec_SourceOk.l0 (k + 1) y0 y1 y2 y3 y4)) ∧ (∀ y0 y1 y2 y3 y4 y5, LeO (spec_SourceOk.l1 k y0 y1 y2 y3 y4 y5) (spec_SourceOk.l1 (k + 1) y0 y1 y2 y3 y4 y5)) ∧ (∀ y0 y1 y2 y3 y4 y5 y6, LeO (spec_SourceOk.l2 k y0 y1 y2 y3 y4 y5 y6) (spec_SourceOk.l2 (k + 1) y0 y1 y2 y3 y4 y5 y6))
 | 0 => ⟨fun _ _ _ _ r h => by simp [spec_SourceOk.j0] at h, fun _ _ _ _ _ r h => by simp [spec_SourceOk.l0] at h, fun _ _ _ _ _ _ r h => by simp [spec_SourceOk.l1] at h, fun _ _ _ _ _ _ _ r h => by simp [spec_SourceOk.l2] at h⟩
 | k + 1 => by
  obtain ⟨ih0, ih1, ih2, ih3⟩ := spec_SourceOk.mono_l k
  refine ⟨?_, ?_, ?_, ?_⟩
  ·intro y0 y1 y2 y3
   unfold spec_SourceOk.j0
   repeat' first
   | (with_reducible exact ih0 _ _ _ _)
   | (with_reducible exact ih1 _ _ _ _ _)
   | (with_reducible exact ih2 _ _ _ _ _ _)
   | (with_reducible exact ih3 _ _ _ _ _ _ _)
   | (with_reducible exact spec_l12Link.mono _ _ _ _ _ _)
   | (with_reducible exact spec_l12Zone.mono _ _ _ _ _ _ _)
   | (with_reducible exact LeO.refl _)
   | (with_reducible exact LeO.none _)
   | (with_reducible refine LeO.ite ?_ ?_)
   | (with_reducible refine LeO.bind ?_ (fun _ => ?_))
   | exact ih0 _ _ _ _
   | exact ih1 _ _ _ _ _
   | exact ih2 _ _ _ _ _ _
   | exact ih3 _ _ _ _ _ _ _
   | exact spec_l12Link.mono _ _ _ _ _ _
   | exact spec_l12Zone.mono _ _ _ _ _ _ _
   | exact LeO.none _
   | refine LeO.ite ?_ ?_
   | refine LeO.bind ?_ (fun _ => ?_)
  ·intro y0 y1 y2 y3 y4
   unfold spec_SourceOk.l0
   repeat' first
   | (with_reducible exact ih0 _ _ _ _)
   | (with_reducible exact ih1 _ _ _ _ _)
   | (with_reducible exact ih2 _ _ _ _ _ _)
   | (with_reducible exact ih3 _ _ _ _ _ _ _)
   | (with_reducible exact spec_l12Link.mono _ _ _ _ _ _)
   | (with_reducible exact spec_l12Zone.mono _ _ _ _ _ _ _)
   | (with_reducible exact LeO.refl _)
   | (with_reducible exact LeO.none _)
   | (with_reducible refine LeO.ite ?_ ?_)
   | (with_reducible refine LeO.bind ?_ (fun _ => ?_))
   | exact ih0 _ _ _ _
   | exact ih1 _ _ _ _ _
   | exact ih2 _ _ _ _ _ _
   | exact ih3 _ _ _ _ _ _ _
   | exact spec_l12Link.mono _ _ _ _ _ _
   | exact spec_l12Zone.mono _ _ _ _ _ _ _
   | exact LeO.none _
   | refine LeO.ite ?_ ?_
   | refine LeO.bind ?_ (fun _ => ?_)
  ·intro y0 y1 y2 y3 y4 y5
   unfold spec_SourceOk.l1
   repeat' first
   | (with_reducible exact ih0 _ _ _ _)
   | (with_reducible exact ih1 _ _ _ _ _)
   | (with_reducible exact ih2 _ _ _ _ _ _)
   | (with_reducible exact ih3 _ _ _ _ _ _ _)
   | (with_reducible exact spec_l12Link.mono _ _ _ _ _ _)
   | (with_reducible exact spec_l12Zone.mono _ _ _ _ _ _ _)
   | (with_reducible exact LeO.refl _)
   | (with_reducible exact LeO.none _)
   | (with_reducible refine LeO.ite ?_ ?_)
   | (with_reducible refine LeO.bind ?_ (fun _ => ?_))
   | exact ih0 _ _ _ _
   | exact ih1 _ _ _ _ _
   | exact ih2 _ _ _ _ _ _
   | exact ih3 _ _ _ _ _ _ _
   | exact spec_l12Link.mono _ _ _ _ _ _
   | exact spec_l12Zone.mono _ _ _ _ _ _ _
   | exact LeO.none _
   | refine LeO.ite ?_ ?_
   | refine LeO.bind ?_ (fun _ => ?_)
  ·intro y0 y1 y2 y3 y4 y5 y6
   unfold spec_SourceOk.l2
   repeat' first
   | (with_reducible exact ih0 _ _ _ _)
   | (with_reducible exact ih1 _ _ _ _ _)
   | (with_reducible exact ih2 _ _ _ _ _ _)
   | (with_reducible exact ih3 _ _ _ _ _ _ _)
   | (with_reducible exact spec_l12Link.mono _ _ _ _ _ _)
   | (with_reducible exact spec_l12Zone.mono _ _ _ _ _ _ _)
   | (with_reducible exact LeO.refl _)
   | (with_reducible exact LeO.none _)
   | (with_reducible refine LeO.ite ?_ ?_)
   | (with_reducible refine LeO.bind ?_ (fun _ => ?_))
   | exact ih0 _ _ _ _
   | exact ih1 _ _ _ _ _
   | exact ih2 _ _ _ _ _ _
   | exact ih3 _ _ _ _ _ _ _
   | exact spec_l12Link.mono _ _ _ _ _ _
   | exact spec_l12Zone.mono _ _ _ _ _ _ _
   | exact LeO.none _
   | refine LeO.ite ?_ ?_
   | refine LeO.bind ?_ (fun _ => ?_)
theorem spec_SourceOk.mono : ∀ a0 a1 a2 k, LeO (spec_SourceOk.f k a0 a1 a2) (spec_SourceOk.f (k + 1) a0 a1 a2) := by
 intro a0 a1 a2 k
 obtain ⟨ih0, ih1, ih2, ih3⟩ := spec_SourceOk.mono_l k
 unfold spec_SourceOk.f
 repeat' first
   | (with_reducible exact ih0 _ _ _ _)
   | (with_reducible exact ih1 _ _ _ _ _)
   | (with_reducible exact ih2 _ _ _ _ _ _)
   | (with_reducible exact ih3 _ _ _ _ _ _ _)
   | (with_reducible exact spec_l12Link.mono _ _ _ _ _ _)
   | (with_reducible exact spec_l12Zone.mono _ _ _ _ _ _ _)
   | (with_reducible exact LeO.refl _)
   | (with_reducible exact LeO.none _)
   | (with_reducible refine LeO.ite ?_ ?_)
   | (with_reducible refine LeO.bind ?_ (fun _ => ?_))
   | exact ih0 _ _ _ _
   | exact ih1 _ _ _ _ _
   | exact ih2 _ _ _ _ _ _
   | exact ih3 _ _ _ _ _ _ _
   | exact spec_l12Link.mono _ _ _ _ _ _
   | exact spec_l12Zone.mono _ _ _ _ _ _ _
   | exact LeO.none _
   | refine LeO.ite ?_ ?_
   | refine LeO.bind ?_ (fun _ => ?_)
def spec_SourceOk.T12 : Bool × List (List Nat × List Nat) := (true, [([], []), ([], []), ([1], [1]), ([], []), ([2, 3], [2, 3]), ([4], [4]), ([0, 5], [0, 5]), ([6], [6])])
def spec_SourceOk.B12 : List Nat := [0, 0, 2, 0, 14, 30, 63, 127]
theorem spec_SourceOk.tab12 : rtab .any (opsOf Try.f11 12) = spec_SourceOk.T12 := by kernel_rfl
theorem spec_SourceOk.bits12 : waitsOk spec_SourceOk.T12.2 spec_SourceOk.B12 = true := by kernel_rfl
def spec_SourceOk.T18 : Bool × List (List Nat × List Nat) := (true, [([], []), ([], []), ([1], [1]), ([], []), ([2, 3], [2, 3]), ([4], [4]), ([0, 5], [0, 5]), ([6], [6])])
def spec_SourceOk.B18 : List Nat := [0, 0, 2, 0, 14, 30, 63, 127]
theorem spec_SourceOk.tab18 : rtab .any (opsOf Try.f11 18) = spec_SourceOk.T18 := by kernel_rfl
theorem spec_SourceOk.bits18 : waitsOk spec_SourceOk.T18.2 spec_SourceOk.B18 = true := by kernel_rfl
set_option maxHeartbeats 8000000 in
set_option maxRecDepth 100000 in
theorem spec_SourceOk.calls (k : Nat) (A0_0 : Option Addr) (c0_0 : Nat) (l0_0 : List (S59)) (P0_1_ : Nat → Prop) (A0_1 : Option Addr) (c0_1 : Nat) (l0_1 : List (S29)) (P0_2_ : Nat → Prop) (A0_2 : Option Addr) (c0_2 : Nat) (l0_2 : List (S47)) (r : Bool) (w : World) (hr0_0 : Kd.C k59 w A0_0 l0_0.length l0_0) (hc0_0 : l0_0.length ≤ c0_0) (hs0_1 : Kd.V k29 29 w w.heap.size (fun k_ => P0_1_ k_) (.slice A0_1 l0_1.length c0_1) l0_1) (hs0_2 : Kd.V k47 47 w w.heap.size (fun k_ => P0_2_ k_) (.slice A0_2 l0_2.length c0_2) l0_2) (h : spec_SourceOk.f k l0_0 l0_1 l0_2 = some r) :
  Calls Try.prog 11 #[.agg #[.slice A0_0 l0_0.length c0_0, .slice A0_1 l0_1.length c0_1, .slice A0_2 l0_2.length c0_2]] w fun e w' => e = .returned (.bool r) ∧ Below w.heap.size w w' := by
 have hu36 := Try.underlying36
 have hu59 := Try.underlying59
 have hu29 := Try.underlying29
 have hu47 := Try.underlying47
 have HR0_0 := Aside0.mk hr0_0
 have HC0_0 := Aside0.mk hc0_0
 clear hr0_0 hc0_0
 have HO0_1 := Aside0.mk (show Kd.V k29 29 w w.heap.size (fun k_ => ((P0_1_ k_ ∨ P0_2_ k_) ∨ w.heap.size ≤ k_)) (.slice A0_1 l0_1.length c0_1) l0_1 from Kd.V_mono hs0_1 (fun k_ hk => .inl (.inl hk)))
 have HO0_2 := Aside0.mk (show Kd.V k47 47 w w.heap.size (fun k_ => ((P0_1_ k_ ∨ P0_2_ k_) ∨ w.heap.size ≤ k_)) (.slice A0_2 l0_2.length c0_2) l0_2 from Kd.V_mono hs0_2 (fun k_ hk => .inl (.inr hk)))
 have HB := Aside0.mk (Below.refl w.heap.size w)
 have H : (if (l0_0.length : Int) > 20 then (spec_SourceOk.j0 k true l0_0 l0_1 l0_2) else (if (l0_1.length : Int) > 26 then (spec_SourceOk.j0 k true l0_0 l0_1 l0_2) else (spec_SourceOk.j0 k (decide ((l0_2.length : Int) > 26)) l0_0 l0_1 l0_2))) = some r := h
 clear h
 have HC2 := Aside0.mk H
 clear H
 go_enter Try.func11, Try.ntmps11
 go_upto_region 1 with (first | ((with_reducible refine gate_dst (N := 1) rfl ?_); (try (refine gate_guard (by rfl) ?_; dsimp only)); refine box_event ?hg (N := 1) ?hd (cs := #[.slice A0_0 l0_0.length c0_0, .slice A0_1 l0_1.length c0_1, .slice A0_2 l0_2.length c0_2]) (t := 36) ?hr ?_; (case hd => rfl); (case hg => rfl); (case hr => first | (go_simp; done) | (go_simp; rfl)); intro gb138 hg w3 hbox hb; have n0_ := Aside0.mk (Kd.V_below (Kd.V_elderB (by (with_reducible repeat (first | apply Kd.V_alloc | apply Kd.V_drewN | apply Kd.V_drew)); exact HO0_1.out) gb138 (Nat.le_of_eq hg.symm)) hb); have n1_ := Aside0.mk (Kd.V_below (Kd.V_elderB (by (with_reducible repeat (first | apply Kd.V_alloc | apply Kd.V_drewN | apply Kd.V_drew)); exact HO0_2.out) gb138 (Nat.le_of_eq hg.symm)) hb); have n2_ := Aside0.mk (below_step (by repeat (first | (with_reducible first | exact HB.out | apply below_alloc | apply pw_below_drewN | apply below_drew1) | exact HB.out)) hb); have n3_ := Aside0.mk (hbox); have n4_ := Aside0.mk ((by rw [hg]; exact (below_size (by repeat (first | (with_reducible first | exact HB.out | apply below_alloc | apply pw_below_drewN | apply below_drew1) | exact HB.out))) : w.heap.size ≤ gb138)); have n5_ := Aside0.mk ((by rw [hg]; exact (below_size (by repeat (first | (with_reducible first | exact HB.out | apply below_alloc | apply pw_below_drewN | apply below_drew1) | exact HB.out))) : w.heap.size ≤ gb138)); clear HO0_1; clear HO0_2; clear HB; have HO0_1 := n0_; have HO0_2 := n1_; have HB := n2_; have BK138 := n3_; have GW138 := n4_; have GE138 := n5_; clear n0_ n1_ n2_ n3_ n4_ n5_; clear hb hbox hg))
 (try simp only [Act.put, List.setIfInBounds_toArray, List.set_cons_zero, List.set_cons_succ])
 go_cut [22] (fun v22 wc => ∃ (kq : Nat) (x22_1 : Bool), v22 = .bool x22_1 ∧ Aside0 (spec_SourceOk.j0 kq x22_1 l0_0 l0_1 l0_2 = some r) ∧ Aside0 (kq ≤ k) ∧ Aside0 (Kd.V k29 29 wc w.heap.size (fun k_ => ((P0_1_ k_ ∨ P0_2_ k_) ∨ w.heap.size ≤ k_) ∧ k_ ≠ gb138) (.slice A0_1 l0_1.length c0_1) l0_1) ∧ Aside0 (Kd.V k47 47 wc w.heap.size (fun k_ => ((P0_1_ k_ ∨ P0_2_ k_) ∨ w.heap.size ≤ k_) ∧ k_ ≠ gb138) (.slice A0_2 l0_2.length c0_2) l0_2) ∧ Aside0 (wc.heap[gb138]? = some (.cells #[(.slice A0_0 l0_0.length c0_0), (.slice A0_1 l0_1.length c0_1), (.slice A0_2 l0_2.length c0_2)] 36 (0, 0))) ∧ Aside0 (Below w.heap.size w wc))
 case first =>
  have H := HC2.out
  clear HC2
  go_upto_region 1 with (fail)
  by_cases c4 : (l0_0.length : Int) > 20
  ·rw [if_pos c4] at H
   have c4b0 : decide (20 < (l0_0.length : Int)) = true := decide_eq_true c4
   have c4b1 : decide (20 < l0_0.length) = true := decide_eq_true (by omega)
   clear c4
   (first | rw [c4b0] | (simp only [i64_w, i32_w]; rw [c4b0]) | skip)
   have H' := Aside0.mk H
   clear H
   have hcz5_0 : w3.cell? ⟨gb138, 0, none⟩ = some (.slice A0_0 l0_0.length c0_0) := (blk_cell BK138.out 0).trans rfl
   have hcz5_1 : w3.cell? ⟨gb138, 1, none⟩ = some (.slice A0_1 l0_1.length c0_1) := (blk_cell BK138.out 1).trans rfl
   have hcz5_2 : w3.cell? ⟨gb138, 2, none⟩ = some (.slice A0_2 l0_2.length c0_2) := (blk_cell BK138.out 2).trans rfl
   have hfz5_0 := blk_frozen BK138.out 0
   have hfz5_1 := blk_frozen BK138.out 1
   have hfz5_2 := blk_frozen BK138.out 2
   go_wp2
   go_meet
   case rel => exact ⟨_, (true), (by first | rfl | (simp; done) | (simp [*]; done)), H', ⟨by first | omega | exact Nat.le_refl _⟩, ⟨by (with_reducible repeat (first | apply Kd.V_alloc | apply Kd.V_drewN | apply Kd.V_drew)); exact HO0_1.out⟩, ⟨by (with_reducible repeat (first | apply Kd.V_alloc | apply Kd.V_drewN | apply Kd.V_drew)); exact HO0_2.out⟩, ⟨by (with_reducible repeat (first | refine blk_drewN ?_ _ | refine blk_drew ?_ | refine blk_alloc ?_ _)); exact BK138.out⟩, ⟨by repeat (first | (with_reducible first | exact HB.out | apply below_alloc | apply pw_below_drewN | apply below_drew1 | refine below_set ?_ GE138.out) | exact HB.out)⟩⟩
  ·rw [if_neg c4] at H
   have c4b0 : decide (20 < (l0_0.length : Int)) = false := decide_eq_false c4
   have c4b1 : decide (20 < l0_0.length) = false := decide_eq_false (by omega)
   clear c4
   (first | rw [c4b0] | (simp only [i64_w, i32_w]; rw [c4b0]) | skip)
   by_cases c6 : (l0_1.length : Int) > 26
   ·rw [if_pos c6] at H
    have c6b0 : decide (26 < (l0_1.length : Int)) = true := decide_eq_true c6
    have c6b1 : decide (26 < l0_1.length) = true := decide_eq_true (by omega)
    clear c6
    have H' := Aside0.mk H
    clear H
    have hcz7_0 : w3.cell? ⟨gb138, 0, none⟩ = some (.slice A0_0 l0_0.length c0_0) := (blk_cell BK138.out 0).trans rfl
    have hcz7_1 : w3.cell? ⟨gb138, 1, none⟩ = some (.slice A0_1 l0_1.length c0_1) := (blk_cell BK138.out 1).trans rfl
    have hcz7_2 : w3.cell? ⟨gb138, 2, none⟩ = some (.slice A0_2 l0_2.length c0_2) := (blk_cell BK138.out 2).trans rfl
    have hfz7_0 := blk_frozen BK138.out 0
    have hfz7_1 := blk_frozen BK138.out 1
    have hfz7_2 := blk_frozen BK138.out 2
    go_wp2
    go_meet
    case rel => exact ⟨_, (true), (by first | rfl | (simp; done) | (simp [*]; done)), H', ⟨by first | omega | exact Nat.le_refl _⟩, ⟨by (with_reducible repeat (first | apply Kd.V_alloc | apply Kd.V_drewN | apply Kd.V_drew)); exact HO0_1.out⟩, ⟨by (with_reducible repeat (first | apply Kd.V_alloc | apply Kd.V_drewN | apply Kd.V_drew)); exact HO0_2.out⟩, ⟨by (with_reducible repeat (first | refine blk_drewN ?_ _ | refine blk_drew ?_ | refine blk_alloc ?_ _)); exact BK138.out⟩, ⟨by repeat (first | (with_reducible first | exact HB.out | apply below_alloc | apply pw_below_drewN | apply below_drew1 | refine below_set ?_ GE138.out) | exact HB.out)⟩⟩
   ·rw [if_neg c6] at H
    have c6b0 : decide (26 < (l0_1.length : Int)) = false := decide_eq_false c6
    have c6b1 : decide (26 < l0_1.length) = false := decide_eq_false (by omega)
    clear c6
    have H' := Aside0.mk H
    clear H
    have hcz8_0 : w3.cell? ⟨gb138, 0, none⟩ = some (.slice A0_0 l0_0.length c0_0) := (blk_cell BK138.out 0).trans rfl
    have hcz8_1 : w3.cell? ⟨gb138, 1, none⟩ = some (.slice A0_1 l0_1.length c0_1) := (blk_cell BK138.out 1).trans rfl
    have hcz8_2 : w3.cell? ⟨gb138, 2, none⟩ = some (.slice A0_2 l0_2.length c0_2) := (blk_cell BK138.out 2).trans rfl
    have hfz8_0 := blk_frozen BK138.out 0
    have hfz8_1 := blk_frozen BK138.out 1
    have hfz8_2 := blk_frozen BK138.out 2
    go_wp2
    go_meet
    case rel => exact ⟨_, (decide ((l0_2.length : Int) > 26)), (by first | rfl | (simp; done) | (simp [*]; done)), H', ⟨by first | omega | exact Nat.le_refl _⟩, ⟨by (with_reducible repeat (first | apply Kd.V_alloc | apply Kd.V_drewN | apply Kd.V_drew)); exact HO0_1.out⟩, ⟨by (with_reducible repeat (first | apply Kd.V_alloc | apply Kd.V_drewN | apply Kd.V_drew)); exact HO0_2.out⟩, ⟨by (with_reducible repeat (first | refine blk_drewN ?_ _ | refine blk_drew ?_ | refine blk_alloc ?_ _)); exact BK138.out⟩, ⟨by repeat (first | (with_reducible first | exact HB.out | apply below_alloc | apply pw_below_drewN | apply below_drew1 | refine below_set ?_ GE138.out) | exact HB.out)⟩⟩
 case rest =>
  clear HC2
  try clear c1
  try clear p2
  try clear c4
  try clear c4b0
  try clear c4b1
  try clear c6
  try clear c6b0
  try clear c6b1
  (try clear hcz5_0; try clear hcz5_1; try clear hcz5_2; try clear hcz7_0; try clear hcz7_1; try clear hcz7_2; try clear hcz8_0; try clear hcz8_1; try clear hcz8_2; try clear hfz5_0; try clear hfz5_1; try clear hfz5_2; try clear hfz7_0; try clear hfz7_1; try clear hfz7_2; try clear hfz8_0; try clear hfz8_1; try clear hfz8_2)
  obtain ⟨kq, x22_1, rfl, HA, HJ1, HO_139001, HO_139002, BK138, HB⟩ := hcut
  cases kq with
  | zero => exact absurd HA.out (by simp [spec_SourceOk.j0])
  | succ kj1 =>
   have H := HA.out
   clear HA
   simp only [spec_SourceOk.j0] at H
   go_upto_if 22 with (fail)
   by_cases c9 : x22_1 = true
   ·subst c9
    have H1 : (some false) = some r := by rw [if_pos rfl] at H; exact H
    clear H
    have H := H1
    clear H1
    obtain rfl := Option.some.inj H
    go_wp2
    go_ret
    exact ⟨by first | rfl | (simp [errW_none, errW_some] <;> rfl) | (simp [*, errW_none, errW_some] <;> rfl), by repeat (first | (with_reducible first | exact HB.out | apply below_alloc | apply pw_below_drewN | apply below_drew1 | refine below_set ?_ GE138.out) | exact HB.out)⟩
   ·replace c9 := Bool.eq_false_iff.mpr c9
    subst c9
    have H1 : (spec_SourceOk.l0 kj1 0 l0_0 l0_1 l0_2 l0_0) = some r := by rw [if_neg (show ¬ (false = true) by decide)] at H; exact H
    clear H
    have H := H1
    clear H1
    have H' := Aside0.mk H
    clear H
    have hcz10_0 : wc.cell? ⟨gb138, 0, none⟩ = some (.slice A0_0 l0_0.length c0_0) := (blk_cell BK138.out 0).trans rfl
    have hcz10_1 : wc.cell? ⟨gb138, 1, none⟩ = some (.slice A0_1 l0_1.length c0_1) := (blk_cell BK138.out 1).trans rfl
    have hcz10_2 : wc.cell? ⟨gb138, 2, none⟩ = some (.slice A0_2 l0_2.length c0_2) := (blk_cell BK138.out 2).trans rfl
    have hfz10_0 := blk_frozen BK138.out 0
    have hfz10_1 := blk_frozen BK138.out 1
    have hfz10_2 := blk_frozen BK138.out 2
    go_wp2_with (first | ((with_reducible refine gate_dst (N := 3) rfl ?_); (try (refine gate_guard (by rfl) ?_; dsimp only)); refine box_event ?hg (N := 3) ?hd (cs := #[.slice none 0 0, .slice none 0 0, .slice none 0 0]) (t := 36) ?hr ?_; (case hd => rfl); (case hg => rfl); (case hr => first | (go_simp; done) | (go_simp; rfl)); intro gb139 hg w11 hbox hb; have n0_ := Aside0.mk (Kd.V_below (Kd.V_elderB (by (with_reducible repeat (first | apply Kd.V_alloc | apply Kd.V_drewN | apply Kd.V_drew)); exact HO_139001.out) gb139 (Nat.le_of_eq hg.symm)) hb); have n1_ := Aside0.mk (Kd.V_below (Kd.V_elderB (by (with_reducible repeat (first | apply Kd.V_alloc | apply Kd.V_drewN | apply Kd.V_drew)); exact HO_139002.out) gb139 (Nat.le_of_eq hg.symm)) hb); have n2_ := Aside0.mk (blk_below (g := gb138) (o := .cells #[.slice A0_0 l0_0.length c0_0, .slice A0_1 l0_1.length c0_1, .slice A0_2 l0_2.length c0_2] 36 (0, 0)) (by (with_reducible repeat (first | refine blk_drewN ?_ _ | refine blk_drew ?_ | refine blk_alloc ?_ _)); exact BK138.out) hb); have n3_ := Aside0.mk (below_step (by repeat (first | (with_reducible first | exact HB.out | apply below_alloc | apply pw_below_drewN | apply below_drew1 | refine below_set ?_ GE138.out) | exact HB.out)) hb); have n4_ := Aside0.mk (hbox); have n5_ := Aside0.mk ((by rw [hg]; exact (below_size (by repeat (first | (with_reducible first | exact HB.out | apply below_alloc | apply pw_below_drewN | apply below_drew1 | refine below_set ?_ GE138.out) | exact HB.out))) : w.heap.size ≤ gb139)); have n6_ := Aside0.mk ((by rw [hg]; exact (below_size (by repeat (first | (with_reducible first | exact HB.out | apply below_alloc | apply pw_below_drewN | apply below_drew1 | refine below_set ?_ GE138.out) | exact HB.out))) : w.heap.size ≤ gb139)); have n7_ := Aside0.mk ((by rw [hg]; exact Nat.ne_of_lt (blk_lt (g := gb138) (o := .cells #[.slice A0_0 l0_0.length c0_0, .slice A0_1 l0_1.length c0_1, .slice A0_2 l0_2.length c0_2] 36 (0, 0)) (by (with_reducible repeat (first | refine blk_drewN ?_ _ | refine blk_drew ?_ | refine blk_alloc ?_ _)); exact BK138.out)) : gb138 ≠ gb139)); have n8_ := Aside0.mk ((by rw [hg]; exact Nat.ne_of_gt (blk_lt (g := gb138) (o := .cells #[.slice A0_0 l0_0.length c0_0, .slice A0_1 l0_1.length c0_1, .slice A0_2 l0_2.length c0_2] 36 (0, 0)) (by (with_reducible repeat (first | refine blk_drewN ?_ _ | refine blk_drew ?_ | refine blk_alloc ?_ _)); exact BK138.out)) : gb139 ≠ gb138)); clear HO_139001; clear HO_139002; clear BK138; clear HB; have HO_139001 := n0_; have HO_139002 := n1_; have BK138 := n2_; have HB := n3_; have BK139 := n4_; have GW139 := n5_; have GE139 := n6_; have NB138_139 := n7_; have NB139_138 := n8_; clear n0_ n1_ n2_ n3_ n4_ n5_ n6_ n7_ n8_; clear hb hbox hg; have hnb12 := NB139_138.out; have hnc12 := NB138_139.out; have hcz13_0 : w11.cell? ⟨gb139, 0, none⟩ = some (.slice none 0 0) := (blk_cell BK139.out 0).trans rfl; have hcz13_1 : w11.cell? ⟨gb139, 1, none⟩ = some (.slice none 0 0) := (blk_cell BK139.out 1).trans rfl; have hcz13_2 : w11.cell? ⟨gb139, 2, none⟩ = some (.slice none 0 0) := (blk_cell BK139.out 2).trans rfl; have hfz13_0 := blk_frozen BK139.out 0; have hfz13_1 := blk_frozen BK139.out 1; have hfz13_2 := blk_frozen BK139.out 2))
    go_loopg [4] kj1 (fun kq v4 w' => ∃ (x4_2 : Int), v4 = .int .i64 x4_2 ∧ Aside0 (spec_SourceOk.l0 kq x4_2 l0_0 l0_1 l0_2 l0_0 = some r) ∧ Aside0 (kq ≤ kj1) ∧ Aside0 (Kd.V k29 29 w' w.heap.size (fun k_ => ((P0_1_ k_ ∨ P0_2_ k_) ∨ w.heap.size ≤ k_) ∧ k_ ≠ gb138 ∧ k_ ≠ gb139) (.slice A0_1 l0_1.length c0_1) l0_1) ∧ Aside0 (Kd.V k47 47 w' w.heap.size (fun k_ => ((P0_1_ k_ ∨ P0_2_ k_) ∨ w.heap.size ≤ k_) ∧ k_ ≠ gb138 ∧ k_ ≠ gb139) (.slice A0_2 l0_2.length c0_2) l0_2) ∧ Aside0 (w'.heap[gb138]? = some (.cells #[(.slice A0_0 l0_0.length c0_0), (.slice A0_1 l0_1.length c0_1), (.slice A0_2 l0_2.length c0_2)] 36 (0, 0))) ∧ Aside0 (w'.heap[gb139]? = some (.cells #[(.slice A0_0 l0_0.length c0_0), (.slice none 0 0), (.slice none 0 0)] 36 (0, 0))) ∧ Aside0 (Below w.heap.size w w'))
    case atStart => exact ⟨(0), (by first | rfl | (simp; done) | (simp [*]; done)), H', ⟨Nat.le_refl _⟩, ⟨by (with_reducible repeat (first | apply Kd.V_alloc | apply Kd.V_drewN | apply Kd.V_drew)); exact Kd.V_mono (Kd.V_far (p := ⟨gb139, 2, none⟩) (Kd.V_far (p := ⟨gb139, 1, none⟩) (Kd.V_far (p := ⟨gb139, 0, none⟩) (Kd.V_mono HO_139001.out (fun k_ hk => (⟨hk, hk.2⟩ : _ ∧ k_ ≠ gb139))) (fun _ hk => hk.2) (.slice A0_0 l0_0.length c0_0)) (fun _ hk => hk.2) (.slice none 0 0)) (fun _ hk => hk.2) (.slice none 0 0)) (fun _ hk => ⟨hk.1.1.1, ⟨hk.1.1.2, hk.1.2⟩⟩)⟩, ⟨by (with_reducible repeat (first | apply Kd.V_alloc | apply Kd.V_drewN | apply Kd.V_drew)); exact Kd.V_mono (Kd.V_far (p := ⟨gb139, 2, none⟩) (Kd.V_far (p := ⟨gb139, 1, none⟩) (Kd.V_far (p := ⟨gb139, 0, none⟩) (Kd.V_mono HO_139002.out (fun k_ hk => (⟨hk, hk.2⟩ : _ ∧ k_ ≠ gb139))) (fun _ hk => hk.2) (.slice A0_0 l0_0.length c0_0)) (fun _ hk => hk.2) (.slice none 0 0)) (fun _ hk => hk.2) (.slice none 0 0)) (fun _ hk => ⟨hk.1.1.1, ⟨hk.1.1.2, hk.1.2⟩⟩)⟩, ⟨by (with_reducible repeat (first | refine blk_drewN ?_ _ | refine blk_drew ?_ | refine blk_alloc ?_ _)); refine blk_far ?_ NB138_139.out _; (with_reducible repeat (first | refine blk_drewN ?_ _ | refine blk_drew ?_ | refine blk_alloc ?_ _)); refine blk_far ?_ NB138_139.out _; (with_reducible repeat (first | refine blk_drewN ?_ _ | refine blk_drew ?_ | refine blk_alloc ?_ _)); refine blk_far ?_ NB138_139.out _; (with_reducible repeat (first | refine blk_drewN ?_ _ | refine blk_drew ?_ | refine blk_alloc ?_ _)); exact BK138.out⟩, ⟨by (with_reducible repeat (first | refine blk_drewN ?_ _ | refine blk_drew ?_ | refine blk_alloc ?_ _)); refine blk_put (cs := #[.slice A0_0 l0_0.length c0_0, .slice none 0 0, .slice none 0 0]) ?_ 2 _ rfl; (with_reducible repeat (first | refine blk_drewN ?_ _ | refine blk_drew ?_ | refine blk_alloc ?_ _)); refine blk_put (cs := #[.slice A0_0 l0_0.length c0_0, .slice none 0 0, .slice none 0 0]) ?_ 1 _ rfl; (with_reducible repeat (first | refine blk_drewN ?_ _ | refine blk_drew ?_ | refine blk_alloc ?_ _)); refine blk_put (cs := #[.slice none 0 0, .slice none 0 0, .slice none 0 0]) ?_ 0 _ rfl; (with_reducible repeat (first | refine blk_drewN ?_ _ | refine blk_drew ?_ | refine blk_alloc ?_ _)); exact BK139.out⟩, ⟨by repeat (first | (with_reducible first | exact HB.out | apply below_alloc | apply pw_below_drewN | apply below_drew1 | refine below_set ?_ GE138.out | refine below_set ?_ GE139.out) | exact HB.out)⟩⟩
    case round =>
     clear H'
     try clear c1
     try clear p2
     try clear c4
     try clear c4b0
     try clear c4b1
     try clear c6
     try clear c6b0
     try clear c6b1
     try clear c9
     try clear c11
     try clear c12
     (try clear hcz10_0; try clear hcz10_1; try clear hcz10_2; try clear hcz13_0; try clear hcz13_1; try clear hcz13_2; try clear hcz5_0; try clear hcz5_1; try clear hcz5_2; try clear hcz7_0; try clear hcz7_1; try clear hcz7_2; try clear hcz8_0; try clear hcz8_1; try clear hcz8_2; try clear hfz10_0; try clear hfz10_1; try clear hfz10_2; try clear hfz13_0; try clear hfz13_1; try clear hfz13_2; try clear hfz5_0; try clear hfz5_1; try clear hfz5_2; try clear hfz7_0; try clear hfz7_1; try clear hfz7_2; try clear hfz8_0; try clear hfz8_1; try clear hfz8_2)
     try clear p2
     obtain ⟨x4_2, rfl, HA, HK2, HO_139001, HO_139002, BK138, BK139, HB⟩ := hrel
     cases gk with
     | zero => exact absurd HA.out (by simp [spec_SourceOk.l0])
     | succ k2 =>
      have H := HA.out
      clear HA
      simp only [spec_SourceOk.l0] at H
      have hnb14 := NB138_139.out
      have hnc14 := NB139_138.out
      have hcz15_0 : wr.cell? ⟨gb138, 0, none⟩ = some (.slice A0_0 l0_0.length c0_0) := (blk_cell BK138.out 0).trans rfl
      have hcz15_1 : wr.cell? ⟨gb138, 1, none⟩ = some (.slice A0_1 l0_1.length c0_1) := (blk_cell BK138.out 1).trans rfl
      have hcz15_2 : wr.cell? ⟨gb138, 2, none⟩ = some (.slice A0_2 l0_2.length c0_2) := (blk_cell BK138.out 2).trans rfl
      have hfz15_0 := blk_frozen BK138.out 0
      have hfz15_1 := blk_frozen BK138.out 1
      have hfz15_2 := blk_frozen BK138.out 2
      go_upto_if 30 with (fail)
      by_cases c16 : x4_2 < (l0_0.length : Int)
      ·rw [if_pos c16] at H
       have c16b0 : decide (x4_2 < (l0_0.length : Int)) = true := decide_eq_true c16
       clear c16
       (first | rw [c16b0] | (simp only [i64_w, i32_w]; rw [c16b0]) | skip)
       by_cases c17 : 0 ≤ x4_2
       ·rw [if_pos c17] at H
        have c17b0 : decide (0 ≤ x4_2) = true := decide_eq_true c17
        clear c17
        replace H := Option.bind_eq_some_iff.mp H
        obtain ⟨t141, A180, H⟩ := H
        replace H : (if t141 = true then (spec_SourceOk.l0 k2 (wrap64 (x4_2 + 1)) l0_0 l0_1 l0_2 l0_0) else (some false)) = some r := H
        have A18 := Aside0.mk A180
        clear A180
        have hnb19 := NB138_139.out
        have hnc19 := NB139_138.out
        have hcz20_0 : wr.cell? ⟨gb138, 0, none⟩ = some (.slice A0_0 l0_0.length c0_0) := (blk_cell BK138.out 0).trans rfl
        have hcz20_1 : wr.cell? ⟨gb138, 1, none⟩ = some (.slice A0_1 l0_1.length c0_1) := (blk_cell BK138.out 1).trans rfl
        have hcz20_2 : wr.cell? ⟨gb138, 2, none⟩ = some (.slice A0_2 l0_2.length c0_2) := (blk_cell BK138.out 2).trans rfl
        have hfz20_0 := blk_frozen BK138.out 0
        have hfz20_1 := blk_frozen BK138.out 1
        have hfz20_2 := blk_frozen BK138.out 2
        have p140 : 0 ≤ (x4_2 : Int) := of_decide_eq_true (by first | (with_reducible assumption) | assumption)
        have q140 : x4_2 < (l0_0.length : Int) := of_decide_eq_true (by first | (with_reducible assumption) | assumption)
        obtain ⟨ad140, e140, hx140_0, hx140_1, hx140_2, hx140_3, hx140_4, hx140_5, hx140_6, hx140_7, hx140_8⟩ := at_T59 HR0_0.out x4_2 p140 q140
        cases e140
        replace hx140_0 := (HB.out.cell (World.block_lt_of_cell? w _ hx140_0)).trans hx140_0
        replace hx140_1 := (HB.out.cell (World.block_lt_of_cell? w _ hx140_1)).trans hx140_1
        replace hx140_2 := (HB.out.cell (World.block_lt_of_cell? w _ hx140_2)).trans hx140_2
        replace hx140_3 := (HB.out.cell (World.block_lt_of_cell? w _ hx140_3)).trans hx140_3
        replace hx140_4 := (HB.out.cell (World.block_lt_of_cell? w _ hx140_4)).trans hx140_4
        replace hx140_5 := (HB.out.cell (World.block_lt_of_cell? w _ hx140_5)).trans hx140_5
        replace hx140_6 := (HB.out.cell (World.block_lt_of_cell? w _ hx140_6)).trans hx140_6
        replace hx140_7 := (HB.out.cell (World.block_lt_of_cell? w _ hx140_7)).trans hx140_7
        replace hx140_8 := (HB.out.cell (World.block_lt_of_cell? w _ hx140_8)).trans hx140_8
        replace p140 := eq_true p140
        replace q140 := eq_true q140
        go_upto_if 39 with (first | ((with_reducible refine gate_callee (f := 23) rfl ?_); refine goesL_ (some 38) rfl rfl Try.func23 (by kernel_rfl) rfl #[.agg #[.int .i64 ((rd_T59 l0_0 x4_2).f0), .int .i64 ((rd_T59 l0_0 x4_2).f1), .int .i64 ((rd_T59 l0_0 x4_2).f2), .int .i64 ((rd_T59 l0_0 x4_2).f3), .int .i64 ((rd_T59 l0_0 x4_2).f4.f0), .int .i64 ((rd_T59 l0_0 x4_2).f4.f1), .int .i64 ((rd_T59 l0_0 x4_2).f4.f2), .int .i64 ((rd_T59 l0_0 x4_2).f5), .int .i64 ((rd_T59 l0_0 x4_2).f6)]] rfl (by (try simp only [List.map_toArray, List.map_cons, List.map_nil]); first | done | rfl | (simp only [List.length_drop, List.length_take]; rfl)) ?_; (with_reducible refine (spec_l12RuleOk.calls ((rd_T59 l0_0 x4_2).f0) ((rd_T59 l0_0 x4_2).f1) ((rd_T59 l0_0 x4_2).f2) ((rd_T59 l0_0 x4_2).f3) ((rd_T59 l0_0 x4_2).f4.f0) ((rd_T59 l0_0 x4_2).f4.f1) ((rd_T59 l0_0 x4_2).f4.f2) ((rd_T59 l0_0 x4_2).f5) ((rd_T59 l0_0 x4_2).f6) t141 _ A18.out).mono ?_); rintro e w21 ⟨rfl, hb⟩; refine ⟨_, rfl, ?_⟩; have n0_ := Aside0.mk (Kd.V_below (by (with_reducible repeat (first | apply Kd.V_alloc | apply Kd.V_drewN | apply Kd.V_drew)); exact HO_139001.out) hb); have n1_ := Aside0.mk (Kd.V_below (by (with_reducible repeat (first | apply Kd.V_alloc | apply Kd.V_drewN | apply Kd.V_drew)); exact HO_139002.out) hb); have n2_ := Aside0.mk (blk_below (g := gb138) (o := .cells #[.slice (some ad140) l0_0.length c0_0, .slice A0_1 l0_1.length c0_1, .slice A0_2 l0_2.length c0_2] 36 (0, 0)) (by (with_reducible repeat (first | refine blk_drewN ?_ _ | refine blk_drew ?_ | refine blk_alloc ?_ _)); exact BK138.out) hb); have n3_ := Aside0.mk (blk_below (g := gb139) (o := .cells #[.slice (some ad140) l0_0.length c0_0, .slice none 0 0, .slice none 0 0] 36 (0, 0)) (by (with_reducible repeat (first | refine blk_drewN ?_ _ | refine blk_drew ?_ | refine blk_alloc ?_ _)); exact BK139.out) hb); have n4_ := Aside0.mk (below_step (by repeat (first | (with_reducible first | exact HB.out | apply below_alloc | apply pw_below_drewN | apply below_drew1 | refine below_set ?_ GE138.out | refine below_set ?_ GE139.out) | exact HB.out)) hb); clear HO_139001; clear HO_139002; clear BK138; clear BK139; clear HB; have HO_139001 := n0_; have HO_139002 := n1_; have BK138 := n2_; have BK139 := n3_; have HB := n4_; clear n0_ n1_ n2_ n3_ n4_; (try clear hb); (try clear hb2); (try clear hk); (try clear hi)))
        by_cases c22 : t141 = true
        ·subst c22
         have H1 : (spec_SourceOk.l0 k2 (wrap64 (x4_2 + 1)) l0_0 l0_1 l0_2 l0_0) = some r := by rw [if_pos rfl] at H; exact H
         clear H
         have H := H1
         clear H1
         have H' := Aside0.mk H
         clear H
         go_wp2
         go_roundg k2
         case measure => have := HJ1.out; have := HK2.out; omega
         case rel => exact ⟨(wrap64 (x4_2 + 1)), (by first | rfl | (simp; done) | (simp [*]; done)), H', ⟨by have := HJ1.out; have := HK2.out; omega⟩, ⟨by (with_reducible repeat (first | apply Kd.V_alloc | apply Kd.V_drewN | apply Kd.V_drew)); exact HO_139001.out⟩, ⟨by (with_reducible repeat (first | apply Kd.V_alloc | apply Kd.V_drewN | apply Kd.V_drew)); exact HO_139002.out⟩, ⟨by (with_reducible repeat (first | refine blk_drewN ?_ _ | refine blk_drew ?_ | refine blk_alloc ?_ _)); exact BK138.out⟩, ⟨by (with_reducible repeat (first | refine blk_drewN ?_ _ | refine blk_drew ?_ | refine blk_alloc ?_ _)); exact BK139.out⟩, ⟨by repeat (first | (with_reducible first | exact HB.out | apply below_alloc | apply pw_below_drewN | apply below_drew1 | refine below_set ?_ GE138.out | refine below_set ?_ GE139.out) | exact HB.out)⟩⟩
        ·replace c22 := Bool.eq_false_iff.mpr c22
         subst c22
         have H1 : (some false) = some r := by rw [if_neg (show ¬ (false = true) by decide)] at H; exact H
         clear H
         have H := H1
         clear H1
         obtain rfl := Option.some.inj H
         go_wp2
         go_ret
         exact ⟨by first | rfl | (simp [errW_none, errW_some] <;> rfl) | (simp [*, errW_none, errW_some] <;> rfl), by repeat (first | (with_reducible first | exact HB.out | apply below_alloc | apply pw_below_drewN | apply below_drew1 | refine below_set ?_ GE138.out | refine below_set ?_ GE139.out) | exact HB.out)⟩
       ·rw [if_neg c17] at H
        exact absurd H (by simp)
      ·rw [if_neg c16] at H
       have c16b0 : decide (x4_2 < (l0_0.length : Int)) = false := decide_eq_false c16
       clear c16
       (first | rw [c16b0] | (simp only [i64_w, i32_w]; rw [c16b0]) | skip)
       have H' := Aside0.mk H
       clear H
       go_wp2
       go_loopg [5] k2 (fun kq v5 w' => ∃ (x5_3 : Int) (x140001_3 : List (S29)) (u140001 : Value), v5 = .int .i64 x5_3 ∧ Aside0 (spec_SourceOk.l1 kq x5_3 l0_0 l0_1 l0_2 l0_0 x140001_3 = some r) ∧ Aside0 (kq ≤ k2) ∧ Aside0 (Kd.V k29 29 w' w.heap.size (fun k_ => ((P0_1_ k_ ∨ P0_2_ k_) ∨ w.heap.size ≤ k_) ∧ k_ ≠ gb138 ∧ k_ ≠ gb139) (.slice A0_1 l0_1.length c0_1) l0_1) ∧ Aside0 (Kd.V k47 47 w' w.heap.size (fun k_ => ((P0_1_ k_ ∨ P0_2_ k_) ∨ w.heap.size ≤ k_) ∧ k_ ≠ gb138 ∧ k_ ≠ gb139) (.slice A0_2 l0_2.length c0_2) l0_2) ∧ Aside0 (Kd.V k29 29 w' w.heap.size (fun k_ => ((P0_1_ k_ ∨ P0_2_ k_) ∨ w.heap.size ≤ k_) ∧ k_ ≠ gb138 ∧ k_ ≠ gb139) u140001 x140001_3) ∧ Aside0 (w'.heap[gb138]? = some (.cells #[(.slice A0_0 l0_0.length c0_0), (.slice A0_1 l0_1.length c0_1), (.slice A0_2 l0_2.length c0_2)] 36 (0, 0))) ∧ Aside0 (w'.heap[gb139]? = some (.cells #[(.slice A0_0 l0_0.length c0_0), u140001, (.slice none 0 0)] 36 (0, 0))) ∧ Aside0 (Below w.heap.size w w'))
       case atStart => exact ⟨(0), (([] : List (S29))), (.slice none 0 0), (by first | rfl | (simp; done) | (simp [*]; done)), H', ⟨Nat.le_refl _⟩, ⟨by (with_reducible repeat (first | apply Kd.V_alloc | apply Kd.V_drewN | apply Kd.V_drew)); exact HO_139001.out⟩, ⟨by (with_reducible repeat (first | apply Kd.V_alloc | apply Kd.V_drewN | apply Kd.V_drew)); exact HO_139002.out⟩, ⟨by first | exact Kd.R_nil _ _ _ _ _ | exact Kd.N_nil _ _ _ _ _ | exact Kd.V_nil _ _ _ _ _ | exact Kd.Q_nil _ _ _ _ _ | exact Kd.S_nil _ _ _ _ _⟩, ⟨by (with_reducible repeat (first | refine blk_drewN ?_ _ | refine blk_drew ?_ | refine blk_alloc ?_ _)); exact BK138.out⟩, ⟨by (with_reducible repeat (first | refine blk_drewN ?_ _ | refine blk_drew ?_ | refine blk_alloc ?_ _)); exact BK139.out⟩, ⟨by repeat (first | (with_reducible first | exact HB.out | apply below_alloc | apply pw_below_drewN | apply below_drew1 | refine below_set ?_ GE138.out | refine below_set ?_ GE139.out) | exact HB.out)⟩⟩
       case round =>
        clear H'
        try clear c1
        try clear p1
        try clear q1
        try clear hx1
        try clear c2
        try clear p2
        try clear c4
        try clear c4b0
        try clear c4b1
        try clear c6
        try clear c6b0
        try clear c6b1
        try clear p6
        try clear c9
        try clear c11
        try clear c12
        try clear c14
        try clear p14
        try clear q14
        try clear hx14
        try clear c16
        try clear c16b0
        try clear c17
        try clear c17b0
        try clear c19
        try clear c22
        (try clear hcz10_0; try clear hcz10_1; try clear hcz10_2; try clear hcz13_0; try clear hcz13_1; try clear hcz13_2; try clear hcz15_0; try clear hcz15_1; try clear hcz15_2; try clear hcz20_0; try clear hcz20_1; try clear hcz20_2; try clear hcz5_0; try clear hcz5_1; try clear hcz5_2; try clear hcz7_0; try clear hcz7_1; try clear hcz7_2; try clear hcz8_0; try clear hcz8_1; try clear hcz8_2; try clear hfz10_0; try clear hfz10_1; try clear hfz10_2; try clear hfz13_0; try clear hfz13_1; try clear hfz13_2; try clear hfz15_0; try clear hfz15_1; try clear hfz15_2; try clear hfz20_0; try clear hfz20_1; try clear hfz20_2; try clear hfz5_0; try clear hfz5_1; try clear hfz5_2; try clear hfz7_0; try clear hfz7_1; try clear hfz7_2; try clear hfz8_0; try clear hfz8_1; try clear hfz8_2; try clear hx140_0; try clear hx140_1; try clear hx140_2; try clear hx140_3; try clear hx140_4; try clear hx140_5; try clear hx140_6; try clear hx140_7; try clear hx140_8)
        try clear p140
        try clear p2
        try clear q140
        obtain ⟨x5_3, x140001_3, u140001, rfl, HA, HK3, HO_139001, HO_139002, HO_140001, BK138, BK139, HB⟩ := hrel
        cases gk with
        | zero => exact absurd HA.out (by simp [spec_SourceOk.l1])
        | succ k3 =>
         have H := HA.out
         clear HA
         simp only [spec_SourceOk.l1] at H
         have hnb23 := NB138_139.out
         have hnc23 := NB139_138.out
         have hcz24_0 : wr.cell? ⟨gb138, 0, none⟩ = some (.slice A0_0 l0_0.length c0_0) := (blk_cell BK138.out 0).trans rfl
         have hcz24_1 : wr.cell? ⟨gb138, 1, none⟩ = some (.slice A0_1 l0_1.length c0_1) := (blk_cell BK138.out 1).trans rfl
         have hcz24_2 : wr.cell? ⟨gb138, 2, none⟩ = some (.slice A0_2 l0_2.length c0_2) := (blk_cell BK138.out 2).trans rfl
         have hfz24_0 := blk_frozen BK138.out 0
         have hfz24_1 := blk_frozen BK138.out 1
         have hfz24_2 := blk_frozen BK138.out 2
         go_upto_if 44 with (fail)
         by_cases c25 : x5_3 < (l0_1.length : Int)
         ·rw [if_pos c25] at H
          have c25b0 : decide (x5_3 < (l0_1.length : Int)) = true := decide_eq_true c25
          clear c25
          (first | rw [c25b0] | (simp only [i64_w, i32_w]; rw [c25b0]) | skip)
          by_cases c26 : 0 ≤ x5_3
          ·rw [if_pos c26] at H
           have c26b0 : decide (0 ≤ x5_3) = true := decide_eq_true c26
           clear c26
           replace H := Option.bind_eq_some_iff.mp H
           obtain ⟨t143, A270, H⟩ := H
           replace H : (if t143 = true then (if 0 ≤ (wrap64 (x5_3 + 1)) then (if (wrap64 (x5_3 + 1)) ≤ (l0_1.length : Int) then (spec_SourceOk.l1 k3 (wrap64 (x5_3 + 1)) l0_0 l0_1 l0_2 l0_0 (l0_1.take ((wrap64 (x5_3 + 1)) : Int).toNat)) else (none)) else (none)) else (some false)) = some r := H
           have A27 := Aside0.mk A270
           clear A270
           try go_wp2
           have n0_ := Aside0.mk (Kd.V_drew HO_139001.out)
           have n1_ := Aside0.mk (Kd.V_drew HO_139002.out)
           have n2_ := Aside0.mk (Kd.V_drew HO_140001.out)
           have n3_ := Aside0.mk (blk_drew BK138.out)
           have n4_ := Aside0.mk (blk_drew BK139.out)
           have n5_ := Aside0.mk (below_drew1 HB.out)
           clear HO_139001
           clear HO_139002
           clear HO_140001
           clear BK138
           clear BK139
           clear HB
           have HO_139001 := n0_
           have HO_139002 := n1_
           have HO_140001 := n2_
           have BK138 := n3_
           have BK139 := n4_
           have HB := n5_
           clear n0_ n1_ n2_ n3_ n4_ n5_
           have p142 : 0 ≤ (x5_3 : Int) := of_decide_eq_true (by first | (with_reducible assumption) | assumption)
           have q142 : x5_3 < (l0_1.length : Int) := of_decide_eq_true (by first | (with_reducible assumption) | assumption)
           obtain ⟨ad142, e142, hx142_0, hx142_1, hx142_2⟩ := at_T29 (Kd.V_reads' HO_139001.out).2.2 x5_3 p142 q142
           cases e142
           replace p142 := eq_true p142
           replace q142 := eq_true q142
           obtain ⟨Ao29, co29, eo29⟩ := Kd.V_slice HO_140001.out
           (first | subst eo29 | (injection eo29 with f1_ f2_ f3_; have f4_ := f1_.symm; have f5_ := f3_.symm; clear f1_ f2_ f3_; subst f4_; subst f5_))
           refine start_ (n := 8) (S := fun w' => w'.cell? ⟨gb139, 0, none⟩ = some (.slice A0_0 l0_0.length c0_0) ∧ w'.cell? ⟨gb139, 1, none⟩ = some (.slice Ao29 x140001_3.length co29) ∧ w'.cell? ⟨gb139, 2, none⟩ = some (.slice none 0 0) ∧ w'.cell? ⟨gb138, 0, none⟩ = some (.slice A0_0 l0_0.length c0_0) ∧ w'.cell? ⟨gb138, 1, none⟩ = some (.slice (some ad142) l0_1.length c0_1) ∧ w'.cell? ⟨gb138, 2, none⟩ = some (.slice A0_2 l0_2.length c0_2) ∧ w'.cell? (ad142.add ((x5_3).toNat * 3)) = some (.int .i64 ((rd_T29 l0_1 x5_3).f0)) ∧ w'.cell? ⟨(ad142.add ((x5_3).toNat * 3)).block, (ad142.add ((x5_3).toNat * 3)).off + 1, none⟩ = some (.int .i64 ((rd_T29 l0_1 x5_3).f1)) ∧ w'.cell? ⟨(ad142.add ((x5_3).toNat * 3)).block, (ad142.add ((x5_3).toNat * 3)).off + 2, none⟩ = some (.int .i64 ((rd_T29 l0_1 x5_3).f2))) (ds := []) #[false, false, false, false, false, false, false, false] (by kernel_rfl) rfl rfl ⟨(blk_cell BK139.out 0).trans rfl, (blk_cell BK139.out 1).trans rfl, (blk_cell BK139.out 2).trans rfl, (blk_cell BK138.out 0).trans rfl, (blk_cell BK138.out 1).trans rfl, (blk_cell BK138.out 2).trans rfl, hx142_0, hx142_1, hx142_2⟩ (fun hHeld => ?_); refine with_tabW spec_SourceOk.tab12 spec_SourceOk.bits12 (fun HT_ HW_ => ?_)
           generalize wr.drew = w28 at HO_139001 HO_139002 HO_140001 BK138 BK139 HB hx142_0 hx142_1 hx142_2 hHeld ⊢
           refine p5_ 1 (some 48) #[false, true, false, false, false, false, false, false] (any_of HT_.out (by kernel_rfl)) ?_
           refine p5_ 3 (some 50) #[false, true, false, true, false, false, false, false] (any_of HT_.out (by kernel_rfl)) ?_
           refine take_ (i := 0) (N := some 47) (v := ?_) (a' := ?_) #[true, true, false, true, false, false, false, false] rfl rfl (take_ofW HT_.out HW_.out (by kernel_rfl)) (fun _ _ _ h => h) (Or.inl ⟨by rfl, ?_⟩) hHeld ?_ ?_
           rotate_left
           ·rintro w' ⟨s0, s1, s2, s3, s4, s5, s6, s7, s8⟩
            go_simp
            with_reducible rfl
           rotate_left
           ·simp only [Act.put, List.setIfInBounds_toArray, List.set_cons_zero, List.set_cons_succ, i64_w, i32_w]
            rfl
           refine take_ (i := 2) (N := some 49) (v := ?_) (a' := ?_) #[true, true, true, true, false, false, false, false] rfl rfl (take_ofW HT_.out HW_.out (by kernel_rfl)) (fun _ _ _ h => h) (Or.inl ⟨by rfl, ?_⟩) hHeld ?_ ?_
           rotate_left
           ·rintro w' ⟨s0, s1, s2, s3, s4, s5, s6, s7, s8⟩
            go_simp
            with_reducible rfl
           rotate_left
           ·simp only [Act.put, List.setIfInBounds_toArray, List.set_cons_zero, List.set_cons_succ, i64_w, i32_w]
            rfl
           refine p5_ 4 (some 51) #[true, true, true, true, true, false, false, false] (any_of HT_.out (by kernel_rfl)) ?_
           refine take_ (i := 5) (N := some 52) (v := ?_) (a' := ?_) #[true, true, true, true, true, true, false, false] rfl rfl (take_ofW HT_.out HW_.out (by kernel_rfl)) (fun _ _ _ h => h) (Or.inl ⟨by rfl, ?_⟩) hHeld ?_ ?_
           rotate_left
           ·rintro w' ⟨s0, s1, s2, s3, s4, s5, s6, s7, s8⟩
            go_simp
            with_reducible rfl
           rotate_left
           ·simp only [Act.put, List.setIfInBounds_toArray, List.set_cons_zero, List.set_cons_succ, i64_w, i32_w]
            rfl
           refine one_ (i := 6) (N := some 53) #[true, true, true, true, true, true, true, false] rfl rfl (one_of HT_.out (by kernel_rfl)) (by decide) (fun K hK => ?_)
           refine goes_ Try.func24 (by kernel_rfl) rfl #[.agg #[.slice A0_0 l0_0.length c0_0, .slice Ao29 x140001_3.length co29, .slice none 0 0], .agg #[.int .i64 ((rd_T29 l0_1 x5_3).f0), .int .i64 ((rd_T29 l0_1 x5_3).f1), .int .i64 ((rd_T29 l0_1 x5_3).f2)]] (by rfl) rfl rfl (by (try simp only [List.map_toArray, List.map_cons, List.map_nil]); first | done | rfl | (simp only [List.length_drop, List.length_take]; rfl)) ?_
           refine (spec_l12Zone.calls k3 _ _ l0_0 _ _ x140001_3 _ _ ([] : List (S47)) ((rd_T29 l0_1 x5_3).f0) ((rd_T29 l0_1 x5_3).f1) ((rd_T29 l0_1 x5_3).f2) t143 _ ?side1 ?side2 ?side3 ?side4 ?side5 ?side6 A27.out).mono ?_
           (case side1 => repeat (first | exact (Kd.C_below HR0_0.out HB.out) | (with_reducible refine Kd.C_alloc ?_ _) | (with_reducible refine Kd.C_drewN ?_ _) | (with_reducible refine Kd.C_drew ?_)))
           (case side2 => exact HC0_0.out)
           (case side3 => repeat (first | exact (Kd.V_reads' HO_140001.out).2.2 | (with_reducible refine Kd.C_alloc ?_ _) | (with_reducible refine Kd.C_drewN ?_ _) | (with_reducible refine Kd.C_drew ?_)))
           (case side4 => exact (Kd.V_reads' HO_140001.out).2.1)
           (case side5 => exact Kd.C_nil _ _)
           (case side6 => exact Nat.le_refl _)
           rintro e w30 ⟨rfl, hb⟩
           have HS6_ := (hb.cell (World.block_lt_of_cell? _ _ (hHeld.2.2.2.2.2.2.1))).trans (hHeld.2.2.2.2.2.2.1)
           have HS7_ := (hb.cell (World.block_lt_of_cell? _ _ (hHeld.2.2.2.2.2.2.2.1))).trans (hHeld.2.2.2.2.2.2.2.1)
           have HS8_ := (hb.cell (World.block_lt_of_cell? _ _ (hHeld.2.2.2.2.2.2.2.2))).trans (hHeld.2.2.2.2.2.2.2.2)
           refine ⟨_, rfl, ?_⟩
           have n0_ := Aside0.mk (Kd.V_below (by (with_reducible repeat (first | apply Kd.V_alloc | apply Kd.V_drewN | apply Kd.V_drew)); exact HO_139001.out) hb)
           have n1_ := Aside0.mk (Kd.V_below (by (with_reducible repeat (first | apply Kd.V_alloc | apply Kd.V_drewN | apply Kd.V_drew)); exact HO_139002.out) hb)
           have n2_ := Aside0.mk (Kd.V_below (by (with_reducible repeat (first | apply Kd.V_alloc | apply Kd.V_drewN | apply Kd.V_drew)); exact HO_140001.out) hb)
           have n3_ := Aside0.mk (blk_below (g := gb138) (o := .cells #[.slice A0_0 l0_0.length c0_0, .slice (some ad142) l0_1.length c0_1, .slice A0_2 l0_2.length c0_2] 36 (0, 0)) (by (with_reducible repeat (first | refine blk_drewN ?_ _ | refine blk_drew ?_ | refine blk_alloc ?_ _)); exact BK138.out) hb)
           have n4_ := Aside0.mk (blk_below (g := gb139) (o := .cells #[.slice A0_0 l0_0.length c0_0, .slice Ao29 x140001_3.length co29, .slice none 0 0] 36 (0, 0)) (by (with_reducible repeat (first | refine blk_drewN ?_ _ | refine blk_drew ?_ | refine blk_alloc ?_ _)); exact BK139.out) hb)
           have n5_ := Aside0.mk (below_step (by repeat (first | (with_reducible first | exact HB.out | apply below_alloc | apply pw_below_drewN | apply below_drew1 | refine below_set ?_ GE138.out | refine below_set ?_ GE139.out) | exact HB.out)) hb)
           clear HO_139001
           clear HO_139002
           clear HO_140001
           clear BK138
           clear BK139
           clear HB
           have HO_139001 := n0_
           have HO_139002 := n1_
           have HO_140001 := n2_
           have BK138 := n3_
           have BK139 := n4_
           have HB := n5_
           clear n0_ n1_ n2_ n3_ n4_ n5_
           (try clear hb)
           (try clear hb2)
           (try clear hk)
           (try clear hi)
           refine hK.out _ _ ⟨(blk_cell BK139.out 0).trans rfl, (blk_cell BK139.out 1).trans rfl, (blk_cell BK139.out 2).trans rfl, (blk_cell BK138.out 0).trans rfl, (blk_cell BK138.out 1).trans rfl, (blk_cell BK138.out 2).trans rfl, HS6_, HS7_, HS8_⟩ (fun hHeld => ?_)
           clear hK K
           refine norm_ (a' := ?_) ?_ ?_
           rotate_left
           ·show Act.put _ (some 53) _ = _
            simp only [Act.put, List.setIfInBounds_toArray, List.set_cons_zero, List.set_cons_succ, i64_w, i32_w]
            rfl
           refine p5_ 7 (some 54) #[true, true, true, true, true, true, true, true] (any_of HT_.out (by kernel_rfl)) ?_
           refine done_ (done_of HT_.out (by kernel_rfl)) ?_
           go_upto_if 54 with (fail)
           by_cases c31 : t143 = true
           ·subst c31
            have H1 : (if 0 ≤ (wrap64 (x5_3 + 1)) then (if (wrap64 (x5_3 + 1)) ≤ (l0_1.length : Int) then (spec_SourceOk.l1 k3 (wrap64 (x5_3 + 1)) l0_0 l0_1 l0_2 l0_0 (l0_1.take ((wrap64 (x5_3 + 1)) : Int).toNat)) else (none)) else (none)) = some r := by rw [if_pos rfl] at H; exact H
            clear H
            have H := H1
            clear H1
            obtain ⟨ji32, hji32⟩ : ∃ j_ : Int, (wrap64 (x5_3 + 1)) = j_ := ⟨_, rfl⟩
            replace H : (if 0 ≤ (ji32) then (if (ji32) ≤ (l0_1.length : Int) then (spec_SourceOk.l1 k3 ji32 l0_0 l0_1 l0_2 l0_0 (l0_1.take ((ji32) : Int).toNat)) else (none)) else (none)) = some r := by first | (rw [hji32] at H; exact H) | (simp only [hji32] at H ⊢; exact H)
            have hji32w : (IntKind.i64.wrap (x5_3 + 1)) = ji32 := (i64_w _).trans hji32
            by_cases c33 : 0 ≤ (ji32)
            ·rw [if_pos c33] at H
             have c33b0 := eq_true c33
             have c33b1 : decide (0 ≤ (ji32)) = true := decide_eq_true c33
             clear c33
             by_cases c34 : (ji32) ≤ (l0_1.length : Int)
             ·rw [if_pos c34] at H
              have c34b0 := eq_true c34
              have c34b1 : decide ((ji32) ≤ (l0_1.length : Int)) = true := decide_eq_true c34
              clear c34
              obtain ⟨y144, hy144⟩ : ∃ y_ : List (S29), y_ = (l0_1.take ((ji32) : Int).toNat) := ⟨_, rfl⟩
              replace H : (spec_SourceOk.l1 k3 ji32 l0_0 l0_1 l0_2 l0_0 y144) = some r := by first | (rw [hy144]; with_reducible exact H) | (have H2_ := (Option.bind_some _ _).symm.trans H; rw [hy144]; with_reducible exact H2_) | (have H2_ := (Option.bind_some _ _).symm.trans H; with_reducible exact H2_) | with_reducible exact H | (rw [hy144]; exact H) | exact H
              have Ny144 := Aside0.mk hy144
              clear hy144
              have H' := Aside0.mk H
              clear H
              have hnb35 := NB138_139.out
              have hnc35 := NB139_138.out
              have hcz36_0 : w30.cell? ⟨gb138, 0, none⟩ = some (.slice A0_0 l0_0.length c0_0) := (blk_cell BK138.out 0).trans rfl
              have hcz36_1 : w30.cell? ⟨gb138, 1, none⟩ = some (.slice (some ad142) l0_1.length c0_1) := (blk_cell BK138.out 1).trans rfl
              have hcz36_2 : w30.cell? ⟨gb138, 2, none⟩ = some (.slice A0_2 l0_2.length c0_2) := (blk_cell BK138.out 2).trans rfl
              have hfz36_0 := blk_frozen BK138.out 0
              have hfz36_1 := blk_frozen BK138.out 1
              have hfz36_2 := blk_frozen BK138.out 2
              have q37 : ((ji32) : Int) ≤ ((l0_1.length : Int) : Int) := of_decide_eq_true (by first | (with_reducible assumption) | assumption)
              obtain ⟨i037, hi037, _, hsz37, _⟩ := info_parts info29
              have hroom37 : l0_1.length ≤ c0_1 := (Kd.V_reads' HO_139001.out).2.1
              have hC37 : Kd.F k29 _ _ (some ad142) l0_1.length l0_1 := (Kd.V_at (base := w.heap.size) HO_139001.out).2.2
              have hcut37 := cut_to (P := Try.prog) 33 29 .i64 Try.underlying33 hi037 (some ad142) l0_1.length c0_1 (ji32) (of_decide_eq_true (by first | (with_reducible assumption) | assumption)) q37 hroom37
              have hr37 := Kd.F_take (m := ((ji32) : Int).toNat) hC37 (by omega)
              have hy37 : y144.length = ((ji32) : Int).toNat := (by rw [Ny144.out, List.length_take]; omega)
              rw [← Ny144.out] at hr37
              rw [← hy37] at hcut37
              have HO148 := Aside0.mk (show Kd.V k29 29 _ w.heap.size _ (.slice (some ad142) y144.length c0_1) y144 from Kd.V_mk (by omega) hr37)
              have HC148 := Aside0.mk (show y144.length ≤ c0_1 from by omega)
              clear hr37 hC37 hroom37 hi037 hsz37
              have KY37 := Aside0.mk hy37
              clear hy37
              replace q37 := eq_true q37
              have hcz38_0 : w30.cell? ⟨gb139, 0, none⟩ = some (.slice A0_0 l0_0.length c0_0) := (blk_cell BK139.out 0).trans rfl
              have hcz38_1 : w30.cell? ⟨gb139, 1, none⟩ = some (.slice Ao29 x140001_3.length co29) := (blk_cell BK139.out 1).trans rfl
              have hcz38_2 : w30.cell? ⟨gb139, 2, none⟩ = some (.slice none 0 0) := (blk_cell BK139.out 2).trans rfl
              have hfz38_0 := blk_frozen BK139.out 0
              have hfz38_1 := blk_frozen BK139.out 1
              have hfz38_2 := blk_frozen BK139.out 2
              go_wp2
              go_roundg k3
              case measure => have := HJ1.out; have := HK2.out; have := HK3.out; omega
              case rel => exact ⟨(ji32), (y144), (.slice (some ad142) y144.length c0_1), (by first | rfl | (simp; done) | (simp only [← hji32] <;> (first | rfl | simp)) | (simp [*]; done)), H', ⟨by have := HJ1.out; have := HK2.out; have := HK3.out; omega⟩, ⟨by (with_reducible repeat (first | apply Kd.V_alloc | apply Kd.V_drewN | apply Kd.V_drew)); exact Kd.V_mono (Kd.V_far (p := ⟨gb139, 1, none⟩) (Kd.V_mono HO_139001.out (fun k_ hk => (⟨hk, hk.2.2⟩ : _ ∧ k_ ≠ gb139))) (fun _ hk => hk.2) (.slice (some ad142) y144.length c0_1)) (fun _ hk => ⟨hk.1.1, ⟨hk.1.2.1, hk.1.2.2⟩⟩)⟩, ⟨by (with_reducible repeat (first | apply Kd.V_alloc | apply Kd.V_drewN | apply Kd.V_drew)); exact Kd.V_mono (Kd.V_far (p := ⟨gb139, 1, none⟩) (Kd.V_mono HO_139002.out (fun k_ hk => (⟨hk, hk.2.2⟩ : _ ∧ k_ ≠ gb139))) (fun _ hk => hk.2) (.slice (some ad142) y144.length c0_1)) (fun _ hk => ⟨hk.1.1, ⟨hk.1.2.1, hk.1.2.2⟩⟩)⟩, ⟨by (with_reducible repeat (first | apply Kd.V_alloc | apply Kd.V_drewN | apply Kd.V_drew)); exact Kd.V_mono (Kd.V_far (p := ⟨gb139, 1, none⟩) (Kd.V_mono HO148.out (fun k_ hk => (⟨hk, hk.2.2⟩ : _ ∧ k_ ≠ gb139))) (fun _ hk => hk.2) (.slice (some ad142) y144.length c0_1)) (fun _ hk => ⟨hk.1.1, ⟨hk.1.2.1, hk.1.2.2⟩⟩)⟩, ⟨by (with_reducible repeat (first | refine blk_drewN ?_ _ | refine blk_drew ?_ | refine blk_alloc ?_ _)); refine blk_far ?_ NB138_139.out _; (with_reducible repeat (first | refine blk_drewN ?_ _ | refine blk_drew ?_ | refine blk_alloc ?_ _)); exact BK138.out⟩, ⟨by (with_reducible repeat (first | refine blk_drewN ?_ _ | refine blk_drew ?_ | refine blk_alloc ?_ _)); refine blk_put (cs := #[.slice A0_0 l0_0.length c0_0, .slice Ao29 x140001_3.length co29, .slice none 0 0]) ?_ 1 _ rfl; (with_reducible repeat (first | refine blk_drewN ?_ _ | refine blk_drew ?_ | refine blk_alloc ?_ _)); exact BK139.out⟩, ⟨by repeat (first | (with_reducible first | exact HB.out | apply below_alloc | apply pw_below_drewN | apply below_drew1 | refine below_set ?_ GE138.out | refine below_set ?_ GE139.out) | exact HB.out)⟩⟩
             ·rw [if_neg c34] at H
              exact absurd H (by simp)
            ·rw [if_neg c33] at H
             exact absurd H (by simp)
           ·replace c31 := Bool.eq_false_iff.mpr c31
            subst c31
            have H1 : (some false) = some r := by rw [if_neg (show ¬ (false = true) by decide)] at H; exact H
            clear H
            have H := H1
            clear H1
            obtain rfl := Option.some.inj H
            go_wp2
            go_ret
            exact ⟨by first | rfl | (simp [errW_none, errW_some] <;> rfl) | (simp [*, errW_none, errW_some] <;> rfl), by repeat (first | (with_reducible first | exact HB.out | apply below_alloc | apply pw_below_drewN | apply below_drew1 | refine below_set ?_ GE138.out | refine below_set ?_ GE139.out) | exact HB.out)⟩
          ·rw [if_neg c26] at H
           exact absurd H (by simp)
         ·rw [if_neg c25] at H
          have c25b0 : decide (x5_3 < (l0_1.length : Int)) = false := decide_eq_false c25
          clear c25
          (first | rw [c25b0] | (simp only [i64_w, i32_w]; rw [c25b0]) | skip)
          have H' := Aside0.mk H
          clear H
          go_wp2
          go_loopg [6] k3 (fun kq v6 w' => ∃ (x6_4 : Int) (x140002_4 : List (S47)) (u140002 : Value), v6 = .int .i64 x6_4 ∧ Aside0 (spec_SourceOk.l2 kq x6_4 l0_0 l0_1 l0_2 l0_0 x140001_3 x140002_4 = some r) ∧ Aside0 (kq ≤ k3) ∧ Aside0 (Kd.V k29 29 w' w.heap.size (fun k_ => ((P0_1_ k_ ∨ P0_2_ k_) ∨ w.heap.size ≤ k_) ∧ k_ ≠ gb138 ∧ k_ ≠ gb139) (.slice A0_1 l0_1.length c0_1) l0_1) ∧ Aside0 (Kd.V k47 47 w' w.heap.size (fun k_ => ((P0_1_ k_ ∨ P0_2_ k_) ∨ w.heap.size ≤ k_) ∧ k_ ≠ gb138 ∧ k_ ≠ gb139) (.slice A0_2 l0_2.length c0_2) l0_2) ∧ Aside0 (Kd.V k29 29 w' w.heap.size (fun k_ => ((P0_1_ k_ ∨ P0_2_ k_) ∨ w.heap.size ≤ k_) ∧ k_ ≠ gb138 ∧ k_ ≠ gb139) u140001 x140001_3) ∧ Aside0 (Kd.V k47 47 w' w.heap.size (fun k_ => ((P0_1_ k_ ∨ P0_2_ k_) ∨ w.heap.size ≤ k_) ∧ k_ ≠ gb138 ∧ k_ ≠ gb139) u140002 x140002_4) ∧ Aside0 (w'.heap[gb138]? = some (.cells #[(.slice A0_0 l0_0.length c0_0), (.slice A0_1 l0_1.length c0_1), (.slice A0_2 l0_2.length c0_2)] 36 (0, 0))) ∧ Aside0 (w'.heap[gb139]? = some (.cells #[(.slice A0_0 l0_0.length c0_0), u140001, u140002] 36 (0, 0))) ∧ Aside0 (Below w.heap.size w w'))
          case atStart => exact ⟨(0), (([] : List (S47))), (.slice none 0 0), (by first | rfl | (simp; done) | (simp [*]; done)), H', ⟨Nat.le_refl _⟩, ⟨by (with_reducible repeat (first | apply Kd.V_alloc | apply Kd.V_drewN | apply Kd.V_drew)); exact HO_139001.out⟩, ⟨by (with_reducible repeat (first | apply Kd.V_alloc | apply Kd.V_drewN | apply Kd.V_drew)); exact HO_139002.out⟩, ⟨by (with_reducible repeat (first | apply Kd.V_alloc | apply Kd.V_drewN | apply Kd.V_drew)); exact HO_140001.out⟩, ⟨by first | exact Kd.R_nil _ _ _ _ _ | exact Kd.N_nil _ _ _ _ _ | exact Kd.V_nil _ _ _ _ _ | exact Kd.Q_nil _ _ _ _ _ | exact Kd.S_nil _ _ _ _ _⟩, ⟨by (with_reducible repeat (first | refine blk_drewN ?_ _ | refine blk_drew ?_ | refine blk_alloc ?_ _)); exact BK138.out⟩, ⟨by (with_reducible repeat (first | refine blk_drewN ?_ _ | refine blk_drew ?_ | refine blk_alloc ?_ _)); exact BK139.out⟩, ⟨by repeat (first | (with_reducible first | exact HB.out | apply below_alloc | apply pw_below_drewN | apply below_drew1 | refine below_set ?_ GE138.out | refine below_set ?_ GE139.out) | exact HB.out)⟩⟩
          case round =>
           clear H'
           try clear c1
           try clear p1
           try clear q1
           try clear hx1
           try clear c2
           try clear p2
           try clear c3
           try clear q3
           try clear c4
           try clear c4b0
           try clear c4b1
           try clear c6
           try clear c6b0
           try clear c6b1
           try clear p6
           try clear c9
           try clear c11
           try clear c12
           try clear c14
           try clear p14
           try clear q14
           try clear hx14
           try clear c16
           try clear c16b0
           try clear c17
           try clear c17b0
           try clear c19
           try clear c22
           try clear c23
           try clear c24
           try clear c25
           try clear c25b0
           try clear c26
           try clear c26b0
           try clear c31
           try clear c33
           try clear c33b0
           try clear c33b1
           try clear c34
           try clear c34b0
           try clear c34b1
           try clear c35
           try clear q37
           (try clear hcz10_0; try clear hcz10_1; try clear hcz10_2; try clear hcz13_0; try clear hcz13_1; try clear hcz13_2; try clear hcz15_0; try clear hcz15_1; try clear hcz15_2; try clear hcz20_0; try clear hcz20_1; try clear hcz20_2; try clear hcz24_0; try clear hcz24_1; try clear hcz24_2; try clear hcz36_0; try clear hcz36_1; try clear hcz36_2; try clear hcz38_0; try clear hcz38_1; try clear hcz38_2; try clear hcz5_0; try clear hcz5_1; try clear hcz5_2; try clear hcz7_0; try clear hcz7_1; try clear hcz7_2; try clear hcz8_0; try clear hcz8_1; try clear hcz8_2; try clear hfz10_0; try clear hfz10_1; try clear hfz10_2; try clear hfz13_0; try clear hfz13_1; try clear hfz13_2; try clear hfz15_0; try clear hfz15_1; try clear hfz15_2; try clear hfz20_0; try clear hfz20_1; try clear hfz20_2; try clear hfz24_0; try clear hfz24_1; try clear hfz24_2; try clear hfz36_0; try clear hfz36_1; try clear hfz36_2; try clear hfz38_0; try clear hfz38_1; try clear hfz38_2; try clear hfz5_0; try clear hfz5_1; try clear hfz5_2; try clear hfz7_0; try clear hfz7_1; try clear hfz7_2; try clear hfz8_0; try clear hfz8_1; try clear hfz8_2; try clear hx140_0; try clear hx140_1; try clear hx140_2; try clear hx140_3; try clear hx140_4; try clear hx140_5; try clear hx140_6; try clear hx140_7; try clear hx140_8; try clear hx142_0; try clear hx142_1; try clear hx142_2)
           try clear p1
           try clear p14
           try clear p140
           try clear p142
           try clear p2
           try clear p6
           try clear q1
           try clear q14
           try clear q140
           try clear q142
           try clear q37
           obtain ⟨x6_4, x140002_4, u140002, rfl, HA, HK4, HO_139001, HO_139002, HO_140001, HO_140002, BK138, BK139, HB⟩ := hrel
           cases gk with
           | zero => exact absurd HA.out (by simp [spec_SourceOk.l2])
           | succ k4 =>
            have H := HA.out
            clear HA
            simp only [spec_SourceOk.l2] at H
            have hnb39 := NB138_139.out
            have hnc39 := NB139_138.out
            have hcz40_0 : wr.cell? ⟨gb138, 0, none⟩ = some (.slice A0_0 l0_0.length c0_0) := (blk_cell BK138.out 0).trans rfl
            have hcz40_1 : wr.cell? ⟨gb138, 1, none⟩ = some (.slice A0_1 l0_1.length c0_1) := (blk_cell BK138.out 1).trans rfl
            have hcz40_2 : wr.cell? ⟨gb138, 2, none⟩ = some (.slice A0_2 l0_2.length c0_2) := (blk_cell BK138.out 2).trans rfl
            have hfz40_0 := blk_frozen BK138.out 0
            have hfz40_1 := blk_frozen BK138.out 1
            have hfz40_2 := blk_frozen BK138.out 2
            go_upto_if 65 with (fail)
            by_cases c41 : x6_4 < (l0_2.length : Int)
            ·rw [if_pos c41] at H
             have c41b0 : decide (x6_4 < (l0_2.length : Int)) = true := decide_eq_true c41
             clear c41
             (first | rw [c41b0] | (simp only [i64_w, i32_w]; rw [c41b0]) | skip)
             by_cases c42 : 0 ≤ x6_4
             ·rw [if_pos c42] at H
              have c42b0 : decide (0 ≤ x6_4) = true := decide_eq_true c42
              clear c42
              replace H := Option.bind_eq_some_iff.mp H
              obtain ⟨t150, A430, H⟩ := H
              replace H : (if t150 = true then (if 0 ≤ (wrap64 (x6_4 + 1)) then (if (wrap64 (x6_4 + 1)) ≤ (l0_2.length : Int) then (spec_SourceOk.l2 k4 (wrap64 (x6_4 + 1)) l0_0 l0_1 l0_2 l0_0 x140001_3 (l0_2.take ((wrap64 (x6_4 + 1)) : Int).toNat)) else (none)) else (none)) else (some false)) = some r := H
              have A43 := Aside0.mk A430
              clear A430
              try go_wp2
              have n0_ := Aside0.mk (Kd.V_drew HO_139001.out)
              have n1_ := Aside0.mk (Kd.V_drew HO_139002.out)
              have n2_ := Aside0.mk (Kd.V_drew HO_140001.out)
              have n3_ := Aside0.mk (Kd.V_drew HO_140002.out)
              have n4_ := Aside0.mk (blk_drew BK138.out)
              have n5_ := Aside0.mk (blk_drew BK139.out)
              have n6_ := Aside0.mk (below_drew1 HB.out)
              clear HO_139001
              clear HO_139002
              clear HO_140001
              clear HO_140002
              clear BK138
              clear BK139
              clear HB
              have HO_139001 := n0_
              have HO_139002 := n1_
              have HO_140001 := n2_
              have HO_140002 := n3_
              have BK138 := n4_
              have BK139 := n5_
              have HB := n6_
              clear n0_ n1_ n2_ n3_ n4_ n5_ n6_
              have p149 : 0 ≤ (x6_4 : Int) := of_decide_eq_true (by first | (with_reducible assumption) | assumption)
              have q149 : x6_4 < (l0_2.length : Int) := of_decide_eq_true (by first | (with_reducible assumption) | assumption)
              obtain ⟨ad149, e149, hx149_0, hx149_1⟩ := at_T47 (Kd.V_reads' HO_139002.out).2.2 x6_4 p149 q149
              cases e149
              replace p149 := eq_true p149
              replace q149 := eq_true q149
              obtain ⟨Ao45, co45, eo45⟩ := Kd.V_slice HO_140001.out
              (first | subst eo45 | (injection eo45 with f1_ f2_ f3_; have f4_ := f1_.symm; have f5_ := f3_.symm; clear f1_ f2_ f3_; subst f4_; subst f5_))
              obtain ⟨Ao46, co46, eo46⟩ := Kd.V_slice HO_140002.out
              (first | subst eo46 | (injection eo46 with f1_ f2_ f3_; have f4_ := f1_.symm; have f5_ := f3_.symm; clear f1_ f2_ f3_; subst f4_; subst f5_))
              refine start_ (n := 8) (S := fun w' => w'.cell? ⟨gb139, 0, none⟩ = some (.slice A0_0 l0_0.length c0_0) ∧ w'.cell? ⟨gb139, 1, none⟩ = some (.slice Ao45 x140001_3.length co45) ∧ w'.cell? ⟨gb139, 2, none⟩ = some (.slice Ao46 x140002_4.length co46) ∧ w'.cell? ⟨gb138, 0, none⟩ = some (.slice A0_0 l0_0.length c0_0) ∧ w'.cell? ⟨gb138, 1, none⟩ = some (.slice A0_1 l0_1.length c0_1) ∧ w'.cell? ⟨gb138, 2, none⟩ = some (.slice (some ad149) l0_2.length c0_2) ∧ w'.cell? (ad149.add ((x6_4).toNat * 2)) = some (.int .i64 ((rd_T47 l0_2 x6_4).f0)) ∧ w'.cell? ⟨(ad149.add ((x6_4).toNat * 2)).block, (ad149.add ((x6_4).toNat * 2)).off + 1, none⟩ = some (.int .i64 ((rd_T47 l0_2 x6_4).f1))) (ds := []) #[false, false, false, false, false, false, false, false] (by kernel_rfl) rfl rfl ⟨(blk_cell BK139.out 0).trans rfl, (blk_cell BK139.out 1).trans rfl, (blk_cell BK139.out 2).trans rfl, (blk_cell BK138.out 0).trans rfl, (blk_cell BK138.out 1).trans rfl, (blk_cell BK138.out 2).trans rfl, hx149_0, hx149_1⟩ (fun hHeld => ?_); refine with_tabW spec_SourceOk.tab18 spec_SourceOk.bits18 (fun HT_ HW_ => ?_)
              generalize wr.drew = w44 at HO_139001 HO_139002 HO_140001 HO_140002 BK138 BK139 HB hx149_0 hx149_1 hHeld ⊢
              refine p5_ 1 (some 69) #[false, true, false, false, false, false, false, false] (any_of HT_.out (by kernel_rfl)) ?_
              refine p5_ 3 (some 71) #[false, true, false, true, false, false, false, false] (any_of HT_.out (by kernel_rfl)) ?_
              refine take_ (i := 0) (N := some 68) (v := ?_) (a' := ?_) #[true, true, false, true, false, false, false, false] rfl rfl (take_ofW HT_.out HW_.out (by kernel_rfl)) (fun _ _ _ h => h) (Or.inl ⟨by rfl, ?_⟩) hHeld ?_ ?_
              rotate_left
              ·rintro w' ⟨s0, s1, s2, s3, s4, s5, s6, s7⟩
               go_simp
               with_reducible rfl
              rotate_left
              ·simp only [Act.put, List.setIfInBounds_toArray, List.set_cons_zero, List.set_cons_succ, i64_w, i32_w]
               rfl
              refine take_ (i := 2) (N := some 70) (v := ?_) (a' := ?_) #[true, true, true, true, false, false, false, false] rfl rfl (take_ofW HT_.out HW_.out (by kernel_rfl)) (fun _ _ _ h => h) (Or.inl ⟨by rfl, ?_⟩) hHeld ?_ ?_
              rotate_left
              ·rintro w' ⟨s0, s1, s2, s3, s4, s5, s6, s7⟩
               go_simp
               with_reducible rfl
              rotate_left
              ·simp only [Act.put, List.setIfInBounds_toArray, List.set_cons_zero, List.set_cons_succ, i64_w, i32_w]
               rfl
              refine p5_ 4 (some 72) #[true, true, true, true, true, false, false, false] (any_of HT_.out (by kernel_rfl)) ?_
              refine take_ (i := 5) (N := some 73) (v := ?_) (a' := ?_) #[true, true, true, true, true, true, false, false] rfl rfl (take_ofW HT_.out HW_.out (by kernel_rfl)) (fun _ _ _ h => h) (Or.inl ⟨by rfl, ?_⟩) hHeld ?_ ?_
              rotate_left
              ·rintro w' ⟨s0, s1, s2, s3, s4, s5, s6, s7⟩
               go_simp
               with_reducible rfl
              rotate_left
              ·simp only [Act.put, List.setIfInBounds_toArray, List.set_cons_zero, List.set_cons_succ, i64_w, i32_w]
               rfl
              refine one_ (i := 6) (N := some 74) #[true, true, true, true, true, true, true, false] rfl rfl (one_of HT_.out (by kernel_rfl)) (by decide) (fun K hK => ?_)
              refine goes_ Try.func25 (by kernel_rfl) rfl #[.agg #[.slice A0_0 l0_0.length c0_0, .slice Ao45 x140001_3.length co45, .slice Ao46 x140002_4.length co46], .agg #[.int .i64 ((rd_T47 l0_2 x6_4).f0), .int .i64 ((rd_T47 l0_2 x6_4).f1)]] (by rfl) rfl rfl (by (try simp only [List.map_toArray, List.map_cons, List.map_nil]); first | done | rfl | (simp only [List.length_drop, List.length_take]; rfl)) ?_
              with_reducible refine (spec_l12Link.calls k4 _ _ l0_0 _ _ x140001_3 _ _ x140002_4 ((rd_T47 l0_2 x6_4).f0) ((rd_T47 l0_2 x6_4).f1) t150 _ ?side1 ?side2 ?side3 ?side4 ?side5 ?side6 A43.out).mono ?_
              (case side1 => repeat (first | exact (Kd.C_below HR0_0.out HB.out) | (with_reducible refine Kd.C_alloc ?_ _) | (with_reducible refine Kd.C_drewN ?_ _) | (with_reducible refine Kd.C_drew ?_)))
              (case side2 => exact HC0_0.out)
              (case side3 => repeat (first | exact (Kd.V_reads' HO_140001.out).2.2 | (with_reducible refine Kd.C_alloc ?_ _) | (with_reducible refine Kd.C_drewN ?_ _) | (with_reducible refine Kd.C_drew ?_)))
              (case side4 => exact (Kd.V_reads' HO_140001.out).2.1)
              (case side5 => repeat (first | exact (Kd.V_reads' HO_140002.out).2.2 | (with_reducible refine Kd.C_alloc ?_ _) | (with_reducible refine Kd.C_drewN ?_ _) | (with_reducible refine Kd.C_drew ?_)))
              (case side6 => exact (Kd.V_reads' HO_140002.out).2.1)
              rintro e w47 ⟨rfl, hb⟩
              have HS6_ := (hb.cell (World.block_lt_of_cell? _ _ (hHeld.2.2.2.2.2.2.1))).trans (hHeld.2.2.2.2.2.2.1)
              have HS7_ := (hb.cell (World.block_lt_of_cell? _ _ (hHeld.2.2.2.2.2.2.2))).trans (hHeld.2.2.2.2.2.2.2)
              refine ⟨_, rfl, ?_⟩
              have n0_ := Aside0.mk (Kd.V_below (by (with_reducible repeat (first | apply Kd.V_alloc | apply Kd.V_drewN | apply Kd.V_drew)); exact HO_139001.out) hb)
              have n1_ := Aside0.mk (Kd.V_below (by (with_reducible repeat (first | apply Kd.V_alloc | apply Kd.V_drewN | apply Kd.V_drew)); exact HO_139002.out) hb)
              have n2_ := Aside0.mk (Kd.V_below (by (with_reducible repeat (first | apply Kd.V_alloc | apply Kd.V_drewN | apply Kd.V_drew)); exact HO_140001.out) hb)
              have n3_ := Aside0.mk (Kd.V_below (by (with_reducible repeat (first | apply Kd.V_alloc | apply Kd.V_drewN | apply Kd.V_drew)); exact HO_140002.out) hb)
              have n4_ := Aside0.mk (blk_below (g := gb138) (o := .cells #[.slice A0_0 l0_0.length c0_0, .slice A0_1 l0_1.length c0_1, .slice (some ad149) l0_2.length c0_2] 36 (0, 0)) (by (with_reducible repeat (first | refine blk_drewN ?_ _ | refine blk_drew ?_ | refine blk_alloc ?_ _)); exact BK138.out) hb)
              have n5_ := Aside0.mk (blk_below (g := gb139) (o := .cells #[.slice A0_0 l0_0.length c0_0, .slice Ao45 x140001_3.length co45, .slice Ao46 x140002_4.length co46] 36 (0, 0)) (by (with_reducible repeat (first | refine blk_drewN ?_ _ | refine blk_drew ?_ | refine blk_alloc ?_ _)); exact BK139.out) hb)
              have n6_ := Aside0.mk (below_step (by repeat (first | (with_reducible first | exact HB.out | apply below_alloc | apply pw_below_drewN | apply below_drew1 | refine below_set ?_ GE138.out | refine below_set ?_ GE139.out) | exact HB.out)) hb)
              clear HO_139001
              clear HO_139002
              clear HO_140001
              clear HO_140002
              clear BK138
              clear BK139
              clear HB
              have HO_139001 := n0_
              have HO_139002 := n1_
              have HO_140001 := n2_
              have HO_140002 := n3_
              have BK138 := n4_
              have BK139 := n5_
              have HB := n6_
              clear n0_ n1_ n2_ n3_ n4_ n5_ n6_
              (try clear hb)
              (try clear hb2)
              (try clear hk)
              (try clear hi)
              refine hK.out _ _ ⟨(blk_cell BK139.out 0).trans rfl, (blk_cell BK139.out 1).trans rfl, (blk_cell BK139.out 2).trans rfl, (blk_cell BK138.out 0).trans rfl, (blk_cell BK138.out 1).trans rfl, (blk_cell BK138.out 2).trans rfl, HS6_, HS7_⟩ (fun hHeld => ?_)
              clear hK K
              refine norm_ (a' := ?_) ?_ ?_
              rotate_left
              ·show Act.put _ (some 74) _ = _
               simp only [Act.put, List.setIfInBounds_toArray, List.set_cons_zero, List.set_cons_succ, i64_w, i32_w]
               rfl
              refine p5_ 7 (some 75) #[true, true, true, true, true, true, true, true] (any_of HT_.out (by kernel_rfl)) ?_
              refine done_ (done_of HT_.out (by kernel_rfl)) ?_
              go_upto_if 75 with (fail)
              by_cases c48 : t150 = true
              ·subst c48
               have H1 : (if 0 ≤ (wrap64 (x6_4 + 1)) then (if (wrap64 (x6_4 + 1)) ≤ (l0_2.length : Int) then (spec_SourceOk.l2 k4 (wrap64 (x6_4 + 1)) l0_0 l0_1 l0_2 l0_0 x140001_3 (l0_2.take ((wrap64 (x6_4 + 1)) : Int).toNat)) else (none)) else (none)) = some r := by rw [if_pos rfl] at H; exact H
               clear H
               have H := H1
               clear H1
               obtain ⟨ji49, hji49⟩ : ∃ j_ : Int, (wrap64 (x6_4 + 1)) = j_ := ⟨_, rfl⟩
               replace H : (if 0 ≤ (ji49) then (if (ji49) ≤ (l0_2.length : Int) then (spec_SourceOk.l2 k4 ji49 l0_0 l0_1 l0_2 l0_0 x140001_3 (l0_2.take ((ji49) : Int).toNat)) else (none)) else (none)) = some r := by first | (rw [hji49] at H; exact H) | (simp only [hji49] at H ⊢; exact H)
               have hji49w : (IntKind.i64.wrap (x6_4 + 1)) = ji49 := (i64_w _).trans hji49
               by_cases c50 : 0 ≤ (ji49)
               ·rw [if_pos c50] at H
                have c50b0 := eq_true c50
                have c50b1 : decide (0 ≤ (ji49)) = true := decide_eq_true c50
                clear c50
                by_cases c51 : (ji49) ≤ (l0_2.length : Int)
                ·rw [if_pos c51] at H
                 have c51b0 := eq_true c51
                 have c51b1 : decide ((ji49) ≤ (l0_2.length : Int)) = true := decide_eq_true c51
                 clear c51
                 obtain ⟨y151, hy151⟩ : ∃ y_ : List (S47), y_ = (l0_2.take ((ji49) : Int).toNat) := ⟨_, rfl⟩
                 replace H : (spec_SourceOk.l2 k4 ji49 l0_0 l0_1 l0_2 l0_0 x140001_3 y151) = some r := by first | (rw [hy151]; with_reducible exact H) | (have H2_ := (Option.bind_some _ _).symm.trans H; rw [hy151]; with_reducible exact H2_) | (have H2_ := (Option.bind_some _ _).symm.trans H; with_reducible exact H2_) | with_reducible exact H | (rw [hy151]; exact H) | exact H
                 have Ny151 := Aside0.mk hy151
                 clear hy151
                 have H' := Aside0.mk H
                 clear H
                 have hnb52 := NB138_139.out
                 have hnc52 := NB139_138.out
                 have hcz53_0 : w47.cell? ⟨gb138, 0, none⟩ = some (.slice A0_0 l0_0.length c0_0) := (blk_cell BK138.out 0).trans rfl
                 have hcz53_1 : w47.cell? ⟨gb138, 1, none⟩ = some (.slice A0_1 l0_1.length c0_1) := (blk_cell BK138.out 1).trans rfl
                 have hcz53_2 : w47.cell? ⟨gb138, 2, none⟩ = some (.slice (some ad149) l0_2.length c0_2) := (blk_cell BK138.out 2).trans rfl
                 have hfz53_0 := blk_frozen BK138.out 0
                 have hfz53_1 := blk_frozen BK138.out 1
                 have hfz53_2 := blk_frozen BK138.out 2
                 have q54 : ((ji49) : Int) ≤ ((l0_2.length : Int) : Int) := of_decide_eq_true (by first | (with_reducible assumption) | assumption)
                 obtain ⟨i054, hi054, _, hsz54, _⟩ := info_parts info47
                 have hroom54 : l0_2.length ≤ c0_2 := (Kd.V_reads' HO_139002.out).2.1
                 have hC54 : Kd.F k47 _ _ (some ad149) l0_2.length l0_2 := (Kd.V_at (base := w.heap.size) HO_139002.out).2.2
                 have hcut54 := cut_to (P := Try.prog) 34 47 .i64 Try.underlying34 hi054 (some ad149) l0_2.length c0_2 (ji49) (of_decide_eq_true (by first | (with_reducible assumption) | assumption)) q54 hroom54
                 have hr54 := Kd.F_take (m := ((ji49) : Int).toNat) hC54 (by omega)
                 have hy54 : y151.length = ((ji49) : Int).toNat := (by rw [Ny151.out, List.length_take]; omega)
                 rw [← Ny151.out] at hr54
                 rw [← hy54] at hcut54
                 have HO155 := Aside0.mk (show Kd.V k47 47 _ w.heap.size _ (.slice (some ad149) y151.length c0_2) y151 from Kd.V_mk (by omega) hr54)
                 have HC155 := Aside0.mk (show y151.length ≤ c0_2 from by omega)
                 clear hr54 hC54 hroom54 hi054 hsz54
                 have KY54 := Aside0.mk hy54
                 clear hy54
                 replace q54 := eq_true q54
                 have hcz55_0 : w47.cell? ⟨gb139, 0, none⟩ = some (.slice A0_0 l0_0.length c0_0) := (blk_cell BK139.out 0).trans rfl
                 have hcz55_1 : w47.cell? ⟨gb139, 1, none⟩ = some (.slice Ao45 x140001_3.length co45) := (blk_cell BK139.out 1).trans rfl
                 have hcz55_2 : w47.cell? ⟨gb139, 2, none⟩ = some (.slice Ao46 x140002_4.length co46) := (blk_cell BK139.out 2).trans rfl
                 have hfz55_0 := blk_frozen BK139.out 0
                 have hfz55_1 := blk_frozen BK139.out 1
                 have hfz55_2 := blk_frozen BK139.out 2
                 go_wp2
                 go_roundg k4
                 case measure => have := HJ1.out; have := HK2.out; have := HK3.out; have := HK4.out; omega
                 case rel => exact ⟨(ji49), (y151), (.slice (some ad149) y151.length c0_2), (by first | rfl | (simp; done) | (simp only [← hji49] <;> (first | rfl | simp)) | (simp [*]; done)), H', ⟨by have := HJ1.out; have := HK2.out; have := HK3.out; have := HK4.out; omega⟩, ⟨by (with_reducible repeat (first | apply Kd.V_alloc | apply Kd.V_drewN | apply Kd.V_drew)); exact Kd.V_mono (Kd.V_far (p := ⟨gb139, 2, none⟩) (Kd.V_mono HO_139001.out (fun k_ hk => (⟨hk, hk.2.2⟩ : _ ∧ k_ ≠ gb139))) (fun _ hk => hk.2) (.slice (some ad149) y151.length c0_2)) (fun _ hk => ⟨hk.1.1, ⟨hk.1.2.1, hk.1.2.2⟩⟩)⟩, ⟨by (with_reducible repeat (first | apply Kd.V_alloc | apply Kd.V_drewN | apply Kd.V_drew)); exact Kd.V_mono (Kd.V_far (p := ⟨gb139, 2, none⟩) (Kd.V_mono HO_139002.out (fun k_ hk => (⟨hk, hk.2.2⟩ : _ ∧ k_ ≠ gb139))) (fun _ hk => hk.2) (.slice (some ad149) y151.length c0_2)) (fun _ hk => ⟨hk.1.1, ⟨hk.1.2.1, hk.1.2.2⟩⟩)⟩, ⟨by (with_reducible repeat (first | apply Kd.V_alloc | apply Kd.V_drewN | apply Kd.V_drew)); exact Kd.V_mono (Kd.V_far (p := ⟨gb139, 2, none⟩) (Kd.V_mono HO_140001.out (fun k_ hk => (⟨hk, hk.2.2⟩ : _ ∧ k_ ≠ gb139))) (fun _ hk => hk.2) (.slice (some ad149) y151.length c0_2)) (fun _ hk => ⟨hk.1.1, ⟨hk.1.2.1, hk.1.2.2⟩⟩)⟩, ⟨by (with_reducible repeat (first | apply Kd.V_alloc | apply Kd.V_drewN | apply Kd.V_drew)); exact Kd.V_mono (Kd.V_far (p := ⟨gb139, 2, none⟩) (Kd.V_mono HO155.out (fun k_ hk => (⟨hk, hk.2.2⟩ : _ ∧ k_ ≠ gb139))) (fun _ hk => hk.2) (.slice (some ad149) y151.length c0_2)) (fun _ hk => ⟨hk.1.1, ⟨hk.1.2.1, hk.1.2.2⟩⟩)⟩, ⟨by (with_reducible repeat (first | refine blk_drewN ?_ _ | refine blk_drew ?_ | refine blk_alloc ?_ _)); refine blk_far ?_ NB138_139.out _; (with_reducible repeat (first | refine blk_drewN ?_ _ | refine blk_drew ?_ | refine blk_alloc ?_ _)); exact BK138.out⟩, ⟨by (with_reducible repeat (first | refine blk_drewN ?_ _ | refine blk_drew ?_ | refine blk_alloc ?_ _)); refine blk_put (cs := #[.slice A0_0 l0_0.length c0_0, .slice Ao45 x140001_3.length co45, .slice Ao46 x140002_4.length co46]) ?_ 2 _ rfl; (with_reducible repeat (first | refine blk_drewN ?_ _ | refine blk_drew ?_ | refine blk_alloc ?_ _)); exact BK139.out⟩, ⟨by repeat (first | (with_reducible first | exact HB.out | apply below_alloc | apply pw_below_drewN | apply below_drew1 | refine below_set ?_ GE138.out | refine below_set ?_ GE139.out) | exact HB.out)⟩⟩
                ·rw [if_neg c51] at H
                 exact absurd H (by simp)
               ·rw [if_neg c50] at H
                exact absurd H (by simp)
              ·replace c48 := Bool.eq_false_iff.mpr c48
               subst c48
               have H1 : (some false) = some r := by rw [if_neg (show ¬ (false = true) by decide)] at H; exact H
               clear H
               have H := H1
               clear H1
               obtain rfl := Option.some.inj H
               go_wp2
               go_ret
               exact ⟨by first | rfl | (simp [errW_none, errW_some] <;> rfl) | (simp [*, errW_none, errW_some] <;> rfl), by repeat (first | (with_reducible first | exact HB.out | apply below_alloc | apply pw_below_drewN | apply below_drew1 | refine below_set ?_ GE138.out | refine below_set ?_ GE139.out) | exact HB.out)⟩
             ·rw [if_neg c42] at H
              exact absurd H (by simp)
            ·rw [if_neg c41] at H
             have c41b0 : decide (x6_4 < (l0_2.length : Int)) = false := decide_eq_false c41
             clear c41
             (first | rw [c41b0] | (simp only [i64_w, i32_w]; rw [c41b0]) | skip)
             obtain rfl := Option.some.inj H
             go_wp2
             go_ret
             exact ⟨by first | rfl | (simp [errW_none, errW_some] <;> rfl) | (simp [*, errW_none, errW_some] <;> rfl), by repeat (first | (with_reducible first | exact HB.out | apply below_alloc | apply pw_below_drewN | apply below_drew1 | refine below_set ?_ GE138.out | refine below_set ?_ GE139.out) | exact HB.out)⟩

end Go.Proofs.Ytffchioimceemaa.QFnExactZoneOf
