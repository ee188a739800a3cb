-- Written by a program of this session (wip/xprint.py), which turns a copy of the kit's print: its own text, no printed one.
import Derived.Test.YtahhigniaepgeaaQFnExactRaftNewx0
import Derived.Test.YtahhigniaepgeaaQFnExactRaftNewx3
import Derived.Test.YtahhigniaepgeaaQFnExactRaftNewx4
namespace Go.Proofs.Ytahhigniaepgeaa.QFnExactRaftNew
open Go.RowKit Go.Proofs.YtahhigniaepgeaaW.PrintWords Go.Proofs.YtahhigniaepgeaaW.PrintLast Go.Proofs.YtahhigniaepgeaaW.PrintMore
attribute [local go_sem] max2_int min2_int max_two min_two max_three min_three max_four min_four   -- for this text's walks alone
set_option linter.unusedVariables false
set_option linter.unusedSimpArgs false

abbrev m5_0 : Array Bool := #[false, false, false, false, false, false, false, false, false, false, false, false, false, false, false, false, false, false, false, false, false, false, false, false, false, false, false, false, false, false, false, false, false, false, false, false, false, false]
abbrev m5_1 : Array Bool := #[true, false, false, false, false, false, false, false, false, false, false, false, false, false, false, false, false, false, false, false, false, false, false, false, false, false, false, false, false, false, false, false, false, false, false, false, false, false]
abbrev m5_2 : Array Bool := #[true, false, true, false, false, false, false, false, false, false, false, false, false, false, false, false, false, false, false, false, false, false, false, false, false, false, false, false, false, false, false, false, false, false, false, false, false, false]
abbrev m5_3 : Array Bool := #[true, true, true, false, false, false, false, false, false, false, false, false, false, false, false, false, false, false, false, false, false, false, false, false, false, false, false, false, false, false, false, false, false, false, false, false, false, false]
abbrev m5_4 : Array Bool := #[true, true, true, true, false, false, false, false, false, false, false, false, false, false, false, false, false, false, false, false, false, false, false, false, false, false, false, false, false, false, false, false, false, false, false, false, false, false]
abbrev m5_5 : Array Bool := #[true, true, true, true, true, false, false, false, false, false, false, false, false, false, false, false, false, false, false, false, false, false, false, false, false, false, false, false, false, false, false, false, false, false, false, false, false, false]
abbrev m5_6 : Array Bool := #[true, true, true, true, true, true, false, false, false, false, false, false, false, false, false, false, false, false, false, false, false, false, false, false, false, false, false, false, false, false, false, false, false, false, false, false, false, false]
abbrev m5_7 : Array Bool := #[true, true, true, true, true, true, true, false, false, false, false, false, false, false, false, false, false, false, false, false, false, false, false, false, false, false, false, false, false, false, false, false, false, false, false, false, false, false]
abbrev m5_8 : Array Bool := #[true, true, true, true, true, true, true, true, false, false, false, false, false, false, false, false, false, false, false, false, false, false, false, false, false, false, false, false, false, false, false, false, false, false, false, false, false, false]
abbrev m5_9 : Array Bool := #[true, true, true, true, true, true, true, true, true, false, false, false, false, false, false, false, false, false, false, false, false, false, false, false, false, false, false, false, false, false, false, false, false, false, false, false, false, false]
abbrev m5_10 : Array Bool := #[true, true, true, true, true, true, true, true, true, true, true, true, true, true, true, false, false, false, false, false, false, false, false, false, false, false, false, false, false, false, false, false, false, false, false, false, false, false]
abbrev m5_11 : Array Bool := #[true, true, true, true, true, true, true, true, true, true, true, true, true, true, true, true, false, false, false, false, false, false, false, false, false, false, false, false, false, false, false, false, false, false, false, false, false, false]
abbrev m5_12 : Array Bool := #[true, true, true, true, true, true, true, true, true, true, true, true, true, true, true, true, true, false, false, false, false, false, false, false, false, false, false, false, false, false, false, false, false, false, false, false, false, false]
abbrev m5_13 : Array Bool := #[true, true, true, true, true, true, true, true, true, true, true, true, true, true, true, true, true, true, false, false, false, false, false, false, false, false, false, false, false, false, false, false, false, false, false, false, false, false]
abbrev m5_14 : Array Bool := #[true, true, true, true, true, true, true, true, true, true, true, true, true, true, true, true, true, true, true, false, false, false, false, false, false, false, false, false, false, false, false, false, false, false, false, false, false, false]
abbrev m5_15 : Array Bool := #[true, true, true, true, true, true, true, true, true, true, true, true, true, true, true, true, true, true, true, true, false, false, false, false, false, false, false, false, false, false, false, false, false, false, false, false, false, false]
abbrev m5_16 : Array Bool := #[true, true, true, true, true, true, true, true, true, true, true, true, true, true, true, true, true, true, true, true, true, false, false, false, false, false, false, false, false, false, false, false, false, false, false, false, false, false]
abbrev m5_17 : Array Bool := #[true, true, true, true, true, true, true, true, true, true, true, true, true, true, true, true, true, true, true, true, true, true, false, false, false, false, false, false, false, false, false, false, false, false, false, false, false, false]
abbrev m5_18 : Array Bool := #[true, true, true, true, true, true, true, true, true, true, true, true, true, true, true, true, true, true, true, true, true, true, true, false, false, false, false, false, false, false, false, false, false, false, false, false, false, false]
abbrev m5_19 : Array Bool := #[true, true, true, true, true, true, true, true, true, true, true, true, true, true, true, true, true, true, true, true, true, true, true, true, true, true, true, true, true, true, true, true, false, false, false, false, false, false]
abbrev m5_20 : Array Bool := #[true, true, true, true, true, true, true, true, true, true, true, true, true, true, true, true, true, true, true, true, true, true, true, true, true, true, true, true, true, true, true, true, true, false, false, false, false, false]
abbrev m5_21 : Array Bool := #[true, true, true, true, true, true, true, true, true, true, true, true, true, true, true, true, true, true, true, true, true, true, true, true, true, true, true, true, true, true, true, true, true, true, false, false, false, false]
abbrev m5_22 : Array Bool := #[true, true, true, true, true, true, true, true, true, true, true, true, true, true, true, true, true, true, true, true, true, true, true, true, true, true, true, true, true, true, true, true, true, true, true, false, false, false]
abbrev m5_23 : Array Bool := #[true, true, true, true, true, true, true, true, true, true, true, true, true, true, true, true, true, true, true, true, true, true, true, true, true, true, true, true, true, true, true, true, true, true, true, true, false, false]
abbrev m5_24 : Array Bool := #[true, true, true, true, true, true, true, true, true, true, true, true, true, true, true, true, true, true, true, true, true, true, true, true, true, true, true, true, true, true, true, true, true, true, true, true, true, false]
abbrev m5_25 : Array Bool := #[true, true, true, true, true, true, true, true, true, true, true, true, true, true, true, true, true, true, true, true, true, true, true, true, true, true, true, true, true, true, true, true, true, true, true, true, true, true]
abbrev m5_26 : Array Bool := #[true, true, true, true, true, true, true, true, true, false, true, false, false, false, false, false, false, false, false, false, false, false, false, false, false, false, false, false, false, false, false, false, false, false, false, false, false, false]
abbrev m5_27 : Array Bool := #[true, true, true, true, true, true, true, true, true, false, true, false, false, false, true, false, false, false, false, false, false, false, false, false, false, false, false, false, false, false, false, false, false, false, false, false, false, false]
abbrev m5_28 : Array Bool := #[true, true, true, true, true, true, true, true, true, true, true, false, false, false, true, false, false, false, false, false, false, false, false, false, false, false, false, false, false, false, false, false, false, false, false, false, false, false]
abbrev m5_29 : Array Bool := #[true, true, true, true, true, true, true, true, true, true, true, true, false, false, true, false, false, false, false, false, false, false, false, false, false, false, false, false, false, false, false, false, false, false, false, false, false, false]
abbrev m5_30 : Array Bool := #[true, true, true, true, true, true, true, true, true, true, true, true, true, false, true, false, false, false, false, false, false, false, false, false, false, false, false, false, false, false, false, false, false, false, false, false, false, false]
abbrev m5_31 : Array Bool := #[true, true, true, true, true, true, true, true, true, true, true, true, true, true, true, true, true, true, true, true, true, true, true, true, false, false, false, false, false, false, false, false, false, false, false, false, false, false]
abbrev m5_32 : Array Bool := #[true, true, true, true, true, true, true, true, true, true, true, true, true, true, true, true, true, true, true, true, true, true, true, true, true, false, false, false, false, false, false, false, false, false, false, false, false, false]
abbrev m5_33 : Array Bool := #[true, true, true, true, true, true, true, true, true, true, true, true, true, true, true, true, true, true, true, true, true, true, true, true, true, true, false, false, false, false, false, false, false, false, false, false, false, false]
abbrev m5_34 : Array Bool := #[true, true, true, true, true, true, true, true, true, true, true, true, true, true, true, true, true, true, true, true, true, true, true, true, true, true, true, false, false, false, false, false, false, false, false, false, false, false]
abbrev m5_35 : Array Bool := #[true, true, true, true, true, true, true, true, true, true, true, true, true, true, true, true, true, true, true, true, true, true, true, true, true, true, true, true, false, false, false, false, false, false, false, false, false, false]
abbrev m5_36 : Array Bool := #[true, true, true, true, true, true, true, true, true, true, true, true, true, true, true, true, true, true, true, true, true, true, true, true, true, true, true, true, true, false, false, false, false, false, false, false, false, false]
abbrev m5_37 : Array Bool := #[true, true, true, true, true, true, true, true, true, true, true, true, true, true, true, true, true, true, true, true, true, true, true, true, true, true, true, true, true, true, false, false, false, false, false, false, false, false]
abbrev m5_38 : Array Bool := #[true, true, true, true, true, true, true, true, true, true, true, true, true, true, true, true, true, true, true, true, true, true, true, true, true, true, true, true, true, true, true, false, false, false, false, false, false, false]
theorem p5_ {P : Program} {md : Region.Mode} {ops : Array Oper} {Q : Exit → Act → World → Prop} {S : World → Prop} {ds : List Nat} {oi : Oper} {v : Value} {fuel : Nat} {l : Array Bool} {a a' : Act} {w : World} (i : Nat) (N : Option Tmp) (l' : Array Bool) (hc : anyB md ops l l' i = true) (h : wpAnyLast P md ops Q S ds fuel l' a' w)
  (hi : ops[i]? = some oi := by exact rfl) (hN : oi.dst = N := by exact rfl) (hQ : ∀ c a w, Q (.panic c) (a.put oi.dst v) w → Q (.panic c) a w := by exact fun _ _ _ h => h)
  (hy : Yields P ops oi v a := by (refine Or.inl ⟨by rfl, ?_⟩; intro w'; go_simp; with_reducible rfl)) (ha : a.put N v = a' := by (simp only [Act.put, List.setIfInBounds_toArray, List.set_cons_zero, List.set_cons_succ, i64_w, i32_w]; rfl)) :
  wpAnyLast P md ops Q S ds (fuel + 1) l a w := pure_ l' hi hN hc hQ hy ha h
theorem u5_ {P : Program} {md : Region.Mode} {ops : Array Oper} {Q : Exit → Act → World → Prop} {S : World → Prop} {ds : List Nat} {oi : Oper} {fuel : Nat} {l : Array Bool} {a a' : Act} {w : World} (i : Nat) (N : Option Tmp) (l' : Array Bool) (hc : anyB md ops l l' i = true) (h : wpAnyLast P md ops Q S ds fuel l' a' w)
  (hi : ops[i]? = some oi := by exact rfl) (hN : oi.dst = N := by exact rfl) (hQ : ∀ c a w, Q (.panic c) (a.put oi.dst undef) w → Q (.panic c) a w := by exact fun _ _ _ h => h)
  (hy : Yields P ops oi undef a := by exact Or.inr ⟨by rfl, rfl⟩) (ha : a.put N undef = a' := by (simp only [Act.put, List.setIfInBounds_toArray, List.set_cons_zero, List.set_cons_succ, i64_w, i32_w]; rfl)) :
  wpAnyLast P md ops Q S ds (fuel + 1) l a w := pure_ l' hi hN hc hQ hy ha h

/-! ### spec_HardOk: function 21 -/
mutual
def spec_HardOk.j0 : Nat → Bool → Int → Int → List (S64) → Option (Bool)
 | 0, _, _, _, _ => none
 | k + 1, x19, x138000, x138001, x138002 => if x19 = true then (some false) else (spec_HardOk.l0 k 0 x138000 x138001 x138002)
def spec_HardOk.l0 : Nat → Int → Int → Int → List (S64) → Option (Bool)
 | 0, _, _, _, _ => none
 | k + 1, x3, x138000, x138001, x138002 => if x3 < (x138002.length : Int) then (if 0 ≤ x3 then ((spec_l6Entry.f k ((rd_T64 x138002 x3).f0) ((rd_T64 x138002 x3).f1.f0) ((rd_T64 x138002 x3).f1.f1) ((rd_T64 x138002 x3).f1.f2) ((rd_T64 x138002 x3).f1.f3) ((rd_T64 x138002 x3).f1.f4)).bind fun t141 => (if t141 = true then (if ((rd_T64 x138002 x3).f0) > x138000 then (some false) else (if x3 > 0 then (if 0 ≤ (wrap64 (x3 - 1)) then (if (wrap64 (x3 - 1)) < (x138002.length : Int) then (if ((rd_T64 x138002 x3).f0) < ((rd_T64 x138002 (wrap64 (x3 - 1))).f0) then (some false) else (spec_HardOk.l0 k (wrap64 (x3 + 1)) x138000 x138001 x138002)) else (none)) else (none)) else (spec_HardOk.l0 k (wrap64 (x3 + 1)) x138000 x138001 x138002))) else (some false))) else (none)) else (some true)
end
def spec_HardOk.f (k : Nat) (a0_0 : Int) (a0_1 : Int) (l0_2 : List (S64)) : Option (Bool) := (spec_l1Whole.f a0_0).bind fun t138 => (if t138 = true then ((spec_l1In.f a0_1 0 5).bind fun t139 => (if t139 = true then (spec_HardOk.j0 k (decide ((l0_2.length : Int) > 80)) a0_0 a0_1 l0_2) else (spec_HardOk.j0 k true a0_0 a0_1 l0_2))) else (spec_HardOk.j0 k true a0_0 a0_1 l0_2))
theorem spec_HardOk.mono_l : ∀ k, (∀ y0 y1 y2 y3, LeO (spec_HardOk.j0 k y0 y1 y2 y3) (spec_HardOk.j0 (k + 1) y0 y1 y2 y3)) ∧ (∀ y0 y1 y2 y3, LeO (spec_HardOk.l0 k y0 y1 y2 y3) (spec_HardOk.l0 (k + 1) y0 y1 y2 y3))
 | 0 => ⟨fun _ _ _ _ r h => by simp [spec_HardOk.j0] at h, fun _ _ _ _ r h => by simp [spec_HardOk.l0] at h⟩
 | k + 1 => by
  obtain ⟨ih0, ih1⟩ := spec_HardOk.mono_l k
  refine ⟨?_, ?_⟩
  ·intro y0 y1 y2 y3
   unfold spec_HardOk.j0
   repeat' first
   | (with_reducible exact ih0 _ _ _ _)
   | (with_reducible exact ih1 _ _ _ _)
   | (with_reducible exact spec_l6Entry.mono _ _ _ _ _ _ _)
   | (with_reducible exact LeO.refl _)
   | (with_reducible exact LeO.none _)
   | (with_reducible refine LeO.ite ?_ ?_)
   | (with_reducible refine LeO.bind ?_ (fun _ => ?_))
   | exact ih0 _ _ _ _
   | exact ih1 _ _ _ _
   | exact spec_l6Entry.mono _ _ _ _ _ _ _
   | exact LeO.none _
   | refine LeO.ite ?_ ?_
   | refine LeO.bind ?_ (fun _ => ?_)
  ·intro y0 y1 y2 y3
   unfold spec_HardOk.l0
   repeat' first
   | (with_reducible exact ih0 _ _ _ _)
   | (with_reducible exact ih1 _ _ _ _)
   | (with_reducible exact spec_l6Entry.mono _ _ _ _ _ _ _)
   | (with_reducible exact LeO.refl _)
   | (with_reducible exact LeO.none _)
   | (with_reducible refine LeO.ite ?_ ?_)
   | (with_reducible refine LeO.bind ?_ (fun _ => ?_))
   | exact ih0 _ _ _ _
   | exact ih1 _ _ _ _
   | exact spec_l6Entry.mono _ _ _ _ _ _ _
   | exact LeO.none _
   | refine LeO.ite ?_ ?_
   | refine LeO.bind ?_ (fun _ => ?_)
theorem spec_HardOk.mono : ∀ a0 a1 a2 k, LeO (spec_HardOk.f k a0 a1 a2) (spec_HardOk.f (k + 1) a0 a1 a2) := by
 intro a0 a1 a2 k
 obtain ⟨ih0, ih1⟩ := spec_HardOk.mono_l k
 unfold spec_HardOk.f
 repeat' first
   | (with_reducible exact ih0 _ _ _ _)
   | (with_reducible exact ih1 _ _ _ _)
   | (with_reducible exact spec_l6Entry.mono _ _ _ _ _ _ _)
   | (with_reducible exact LeO.refl _)
   | (with_reducible exact LeO.none _)
   | (with_reducible refine LeO.ite ?_ ?_)
   | (with_reducible refine LeO.bind ?_ (fun _ => ?_))
   | exact ih0 _ _ _ _
   | exact ih1 _ _ _ _
   | exact spec_l6Entry.mono _ _ _ _ _ _ _
   | exact LeO.none _
   | refine LeO.ite ?_ ?_
   | refine LeO.bind ?_ (fun _ => ?_)
def spec_HardOk.T6 : Bool × List (List Nat × List Nat) := (true, [([], []), ([0], [0]), ([], []), ([1, 2], [1, 2]), ([3], [3]), ([4], [4]), ([5], [5]), ([6, 5], [6]), ([7], [7]), ([8, 7], [7, 8]), ([7], [7]), ([9, 10, 7], [7, 9, 10]), ([11, 7], [7, 11]), ([12, 7], [7, 12]), ([7], [7]), ([14, 7], [7, 14]), ([13, 15, 7], [7, 13, 15]), ([7, 16], [7, 16]), ([17, 7], [17]), ([18], [18]), ([19, 18], [18, 19]), ([20, 18, 18], [18, 20]), ([21], [21]), ([22, 21], [21, 22]), ([21], [21]), ([23, 24, 21], [21, 23, 24]), ([25, 21], [21, 25]), ([26, 21], [21, 26]), ([21], [21]), ([28, 21], [21, 28]), ([21], [21]), ([30, 21], [21, 30]), ([29, 31, 21], [21, 29, 31]), ([32, 21], [21, 32]), ([33, 21], [21, 33]), ([27, 34, 21], [21, 27, 34]), ([21, 35, 18], [18, 21, 35]), ([18, 36], [18, 36])])
def spec_HardOk.B6 : List Nat := [0, 1, 0, 7, 15, 31, 63, 127, 255, 511, 255, 2047, 4095, 8191, 255, 16639, 65535, 131071, 262143, 524287, 1048575, 2097151, 4194303, 8388607, 4194303, 33554431, 67108863, 134217727, 4194303, 272629759, 4194303, 1077936127, 4030726143, 8325693439, 16915628031, 34359738367, 68719476735, 137438953471]
theorem spec_HardOk.tab6 : rtab .any (opsOf Try.f21 6) = spec_HardOk.T6 := by kernel_rfl
theorem spec_HardOk.bits6 : waitsOk spec_HardOk.T6.2 spec_HardOk.B6 = true := by kernel_rfl
set_option maxHeartbeats 8000000 in
set_option maxRecDepth 100000 in
theorem spec_HardOk.calls (k : Nat) (a0_0 : Int) (a0_1 : Int) (A0_2 : Option Addr) (c0_2 : Nat) (l0_2 : List (S64)) (r : Bool) (w : World) (hr0_2 : Kd.C k64 w A0_2 l0_2.length l0_2) (hc0_2 : l0_2.length ≤ c0_2) (h : spec_HardOk.f k a0_0 a0_1 l0_2 = some r) :
  Calls Try.prog 21 #[.agg #[.int .i64 a0_0, .int .i64 a0_1, .slice A0_2 l0_2.length c0_2]] w fun e w' => e = .returned (.bool r) ∧ Below w.heap.size w w' := by
 have hu32 := Try.underlying32
 have hu64 := Try.underlying64
 have HR0_2 := Aside0.mk hr0_2
 have HC0_2 := Aside0.mk hc0_2
 clear hr0_2 hc0_2
 have HB := Aside0.mk (Below.refl w.heap.size w)
 have H : ((spec_l1Whole.f a0_0).bind fun t138 => (if t138 = true then ((spec_l1In.f a0_1 0 5).bind fun t139 => (if t139 = true then (spec_HardOk.j0 k (decide ((l0_2.length : Int) > 80)) a0_0 a0_1 l0_2) else (spec_HardOk.j0 k true a0_0 a0_1 l0_2))) else (spec_HardOk.j0 k true a0_0 a0_1 l0_2))) = some r := h
 clear h
 have HC2 := Aside0.mk H
 clear H
 go_enter Try.func21, Try.ntmps21
 go_upto_region 1 with (first | ((with_reducible refine gate_dst (N := 1) rfl ?_); (try (refine gate_guard (by rfl) ?_; dsimp only)); refine box_event ?hg (N := 1) ?hd (cs := #[.int .i64 a0_0, .int .i64 a0_1, .slice A0_2 l0_2.length c0_2]) (t := 32) ?hr ?_; (case hd => rfl); (case hg => rfl); (case hr => first | (go_simp; done) | (go_simp; rfl)); intro gb137 hg w3 hbox hb; have n0_ := Aside0.mk (below_step (by repeat (first | (with_reducible first | exact HB.out | apply below_alloc | apply pw_below_drewN | apply below_drew1) | exact HB.out)) hb); have n1_ := Aside0.mk (hbox); have n2_ := Aside0.mk ((by rw [hg]; exact (below_size (by repeat (first | (with_reducible first | exact HB.out | apply below_alloc | apply pw_below_drewN | apply below_drew1) | exact HB.out))) : w.heap.size ≤ gb137)); have n3_ := Aside0.mk ((by rw [hg]; exact (below_size (by repeat (first | (with_reducible first | exact HB.out | apply below_alloc | apply pw_below_drewN | apply below_drew1) | exact HB.out))) : w.heap.size ≤ gb137)); clear HB; have HB := n0_; have BK137 := n1_; have GW137 := n2_; have GE137 := n3_; clear n0_ n1_ n2_ n3_; clear hb hbox hg))
 (try simp only [Act.put, List.setIfInBounds_toArray, List.set_cons_zero, List.set_cons_succ])
 go_cut [19] (fun v19 wc => ∃ (kq : Nat) (x19_1 : Bool), v19 = .bool x19_1 ∧ Aside0 (spec_HardOk.j0 kq x19_1 a0_0 a0_1 l0_2 = some r) ∧ Aside0 (kq ≤ k) ∧ Aside0 (wc.heap[gb137]? = some (.cells #[.int .i64 a0_0, .int .i64 a0_1, (.slice A0_2 l0_2.length c0_2)] 32 (0, 0))) ∧ Aside0 (Below w.heap.size w wc))
 case first =>
  have H := HC2.out
  clear HC2
  go_upto_region 1 with (fail)
  replace H := Option.bind_eq_some_iff.mp H
  obtain ⟨t138, A40, H⟩ := H
  replace H : (if t138 = true then ((spec_l1In.f a0_1 0 5).bind fun t139 => (if t139 = true then (spec_HardOk.j0 k (decide ((l0_2.length : Int) > 80)) a0_0 a0_1 l0_2) else (spec_HardOk.j0 k true a0_0 a0_1 l0_2))) else (spec_HardOk.j0 k true a0_0 a0_1 l0_2)) = some r := H
  have A4 := Aside0.mk A40
  clear A40
  by_cases c5 : t138 = true
  ·subst c5
   have H1 : ((spec_l1In.f a0_1 0 5).bind fun t139 => (if t139 = true then (spec_HardOk.j0 k (decide ((l0_2.length : Int) > 80)) a0_0 a0_1 l0_2) else (spec_HardOk.j0 k true a0_0 a0_1 l0_2))) = some r := by rw [if_pos rfl] at H; exact H
   clear H
   have H := H1
   clear H1
   replace H := Option.bind_eq_some_iff.mp H
   obtain ⟨t139, A60, H⟩ := H
   replace H : (if t139 = true then (spec_HardOk.j0 k (decide ((l0_2.length : Int) > 80)) a0_0 a0_1 l0_2) else (spec_HardOk.j0 k true a0_0 a0_1 l0_2)) = some r := H
   have A6 := Aside0.mk A60
   clear A60
   by_cases c7 : t139 = true
   ·subst c7
    have H1 : (spec_HardOk.j0 k (decide ((l0_2.length : Int) > 80)) a0_0 a0_1 l0_2) = some r := by rw [if_pos rfl] at H; exact H
    clear H
    have H := H1
    clear H1
    have H' := Aside0.mk H
    clear H
    have hcz8_0 : w3.cell? ⟨gb137, 0, none⟩ = some (.int .i64 a0_0) := (blk_cell BK137.out 0).trans rfl
    have hcz8_1 : w3.cell? ⟨gb137, 1, none⟩ = some (.int .i64 a0_1) := (blk_cell BK137.out 1).trans rfl
    have hcz8_2 : w3.cell? ⟨gb137, 2, none⟩ = some (.slice A0_2 l0_2.length c0_2) := (blk_cell BK137.out 2).trans rfl
    have hfz8_0 := blk_frozen BK137.out 0
    have hfz8_1 := blk_frozen BK137.out 1
    have hfz8_2 := blk_frozen BK137.out 2
    go_wp2_with (first | ((with_reducible refine gate_callee (f := 42) rfl ?_); refine goesL_ (some 6) rfl rfl Try.func42 (by kernel_rfl) rfl #[.int .i64 a0_0] rfl (by (try simp only [List.map_toArray, List.map_cons, List.map_nil]); first | done | rfl | (simp only [List.length_drop, List.length_take]; rfl)) ?_; (with_reducible refine (spec_l1Whole.calls a0_0 true _ A4.out).mono ?_); rintro e w' ⟨rfl, ⟨nd, rfl⟩⟩; refine ⟨_, rfl, ?_⟩) | (go_at_call 20; (with_reducible refine (spec_l1In.calls a0_1 0 5 true _ A6.out).mono ?_); rintro e w' ⟨rfl, ⟨nd, rfl⟩⟩))
    go_meet
    case rel => exact ⟨_, (decide ((l0_2.length : Int) > 80)), (by first | rfl | (simp; done) | (simp [*]; done)), H', ⟨by first | omega | exact Nat.le_refl _⟩, ⟨by (with_reducible repeat (first | refine blk_drewN ?_ _ | refine blk_drew ?_ | refine blk_alloc ?_ _)); exact BK137.out⟩, ⟨by repeat (first | (with_reducible first | exact HB.out | apply below_alloc | apply pw_below_drewN | apply below_drew1 | refine below_set ?_ GE137.out) | exact HB.out)⟩⟩
   ·replace c7 := Bool.eq_false_iff.mpr c7
    subst c7
    have H1 : (spec_HardOk.j0 k true a0_0 a0_1 l0_2) = some r := by rw [if_neg (show ¬ (false = true) by decide)] at H; exact H
    clear H
    have H := H1
    clear H1
    have H' := Aside0.mk H
    clear H
    have hcz9_0 : w3.cell? ⟨gb137, 0, none⟩ = some (.int .i64 a0_0) := (blk_cell BK137.out 0).trans rfl
    have hcz9_1 : w3.cell? ⟨gb137, 1, none⟩ = some (.int .i64 a0_1) := (blk_cell BK137.out 1).trans rfl
    have hcz9_2 : w3.cell? ⟨gb137, 2, none⟩ = some (.slice A0_2 l0_2.length c0_2) := (blk_cell BK137.out 2).trans rfl
    have hfz9_0 := blk_frozen BK137.out 0
    have hfz9_1 := blk_frozen BK137.out 1
    have hfz9_2 := blk_frozen BK137.out 2
    go_wp2_with (first | ((with_reducible refine gate_callee (f := 42) rfl ?_); refine goesL_ (some 6) rfl rfl Try.func42 (by kernel_rfl) rfl #[.int .i64 a0_0] rfl (by (try simp only [List.map_toArray, List.map_cons, List.map_nil]); first | done | rfl | (simp only [List.length_drop, List.length_take]; rfl)) ?_; (with_reducible refine (spec_l1Whole.calls a0_0 true _ A4.out).mono ?_); rintro e w' ⟨rfl, ⟨nd, rfl⟩⟩; refine ⟨_, rfl, ?_⟩) | (go_at_call 20; (with_reducible refine (spec_l1In.calls a0_1 0 5 false _ A6.out).mono ?_); rintro e w' ⟨rfl, ⟨nd, rfl⟩⟩))
    go_meet
    case rel => exact ⟨_, (true), (by first | rfl | (simp; done) | (simp [*]; done)), H', ⟨by first | omega | exact Nat.le_refl _⟩, ⟨by (with_reducible repeat (first | refine blk_drewN ?_ _ | refine blk_drew ?_ | refine blk_alloc ?_ _)); exact BK137.out⟩, ⟨by repeat (first | (with_reducible first | exact HB.out | apply below_alloc | apply pw_below_drewN | apply below_drew1 | refine below_set ?_ GE137.out) | exact HB.out)⟩⟩
  ·replace c5 := Bool.eq_false_iff.mpr c5
   subst c5
   have H1 : (spec_HardOk.j0 k true a0_0 a0_1 l0_2) = some r := by rw [if_neg (show ¬ (false = true) by decide)] at H; exact H
   clear H
   have H := H1
   clear H1
   have H' := Aside0.mk H
   clear H
   have hcz10_0 : w3.cell? ⟨gb137, 0, none⟩ = some (.int .i64 a0_0) := (blk_cell BK137.out 0).trans rfl
   have hcz10_1 : w3.cell? ⟨gb137, 1, none⟩ = some (.int .i64 a0_1) := (blk_cell BK137.out 1).trans rfl
   have hcz10_2 : w3.cell? ⟨gb137, 2, none⟩ = some (.slice A0_2 l0_2.length c0_2) := (blk_cell BK137.out 2).trans rfl
   have hfz10_0 := blk_frozen BK137.out 0
   have hfz10_1 := blk_frozen BK137.out 1
   have hfz10_2 := blk_frozen BK137.out 2
   go_wp2_with (first | ((with_reducible refine gate_callee (f := 42) rfl ?_); refine goesL_ (some 6) rfl rfl Try.func42 (by kernel_rfl) rfl #[.int .i64 a0_0] rfl (by (try simp only [List.map_toArray, List.map_cons, List.map_nil]); first | done | rfl | (simp only [List.length_drop, List.length_take]; rfl)) ?_; (with_reducible refine (spec_l1Whole.calls a0_0 false _ A4.out).mono ?_); rintro e w' ⟨rfl, ⟨nd, rfl⟩⟩; refine ⟨_, rfl, ?_⟩))
   go_meet
   case rel => exact ⟨_, (true), (by first | rfl | (simp; done) | (simp [*]; done)), H', ⟨by first | omega | exact Nat.le_refl _⟩, ⟨by (with_reducible repeat (first | refine blk_drewN ?_ _ | refine blk_drew ?_ | refine blk_alloc ?_ _)); exact BK137.out⟩, ⟨by repeat (first | (with_reducible first | exact HB.out | apply below_alloc | apply pw_below_drewN | apply below_drew1 | refine below_set ?_ GE137.out) | exact HB.out)⟩⟩
 case rest =>
  clear HC2
  try clear c2
  try clear p2
  try clear c4
  try clear c5
  try clear c7
  (try clear hcz10_0; try clear hcz10_1; try clear hcz10_2; try clear hcz8_0; try clear hcz8_1; try clear hcz8_2; try clear hcz9_0; try clear hcz9_1; try clear hcz9_2; try clear hfz10_0; try clear hfz10_1; try clear hfz10_2; try clear hfz8_0; try clear hfz8_1; try clear hfz8_2; try clear hfz9_0; try clear hfz9_1; try clear hfz9_2)
  obtain ⟨kq, x19_1, rfl, HA, HJ1, BK137, HB⟩ := hcut
  cases kq with
  | zero => exact absurd HA.out (by simp [spec_HardOk.j0])
  | succ kj1 =>
   have H := HA.out
   clear HA
   simp only [spec_HardOk.j0] at H
   go_upto_if 19 with (fail)
   by_cases c11 : x19_1 = true
   ·subst c11
    have H1 : (some false) = some r := by rw [if_pos rfl] at H; exact H
    clear H
    have H := H1
    clear H1
    obtain rfl := Option.some.inj H
    go_wp2
    go_ret
    exact ⟨by first | rfl | (simp [errW_none, errW_some] <;> rfl) | (simp [*, errW_none, errW_some] <;> rfl), by repeat (first | (with_reducible first | exact HB.out | apply below_alloc | apply pw_below_drewN | apply below_drew1 | refine below_set ?_ GE137.out) | exact HB.out)⟩
   ·replace c11 := Bool.eq_false_iff.mpr c11
    subst c11
    have H1 : (spec_HardOk.l0 kj1 0 a0_0 a0_1 l0_2) = some r := by rw [if_neg (show ¬ (false = true) by decide)] at H; exact H
    clear H
    have H := H1
    clear H1
    have H' := Aside0.mk H
    clear H
    go_wp2
    go_loopg [3] kj1 (fun kq v3 w' => ∃ (x3_2 : Int), v3 = .int .i64 x3_2 ∧ Aside0 (spec_HardOk.l0 kq x3_2 a0_0 a0_1 l0_2 = some r) ∧ Aside0 (kq ≤ kj1) ∧ Aside0 (w'.heap[gb137]? = some (.cells #[.int .i64 a0_0, .int .i64 a0_1, (.slice A0_2 l0_2.length c0_2)] 32 (0, 0))) ∧ Aside0 (Below w.heap.size w w'))
    case atStart => exact ⟨(0), (by first | rfl | (simp; done) | (simp [*]; done)), H', ⟨Nat.le_refl _⟩, ⟨by (with_reducible repeat (first | refine blk_drewN ?_ _ | refine blk_drew ?_ | refine blk_alloc ?_ _)); exact BK137.out⟩, ⟨by repeat (first | (with_reducible first | exact HB.out | apply below_alloc | apply pw_below_drewN | apply below_drew1 | refine below_set ?_ GE137.out) | exact HB.out)⟩⟩
    case round =>
     clear H'
     try clear c1
     try clear c2
     try clear p2
     try clear c4
     try clear c5
     try clear c7
     try clear c11
     (try clear hcz10_0; try clear hcz10_1; try clear hcz10_2; try clear hcz8_0; try clear hcz8_1; try clear hcz8_2; try clear hcz9_0; try clear hcz9_1; try clear hcz9_2; try clear hfz10_0; try clear hfz10_1; try clear hfz10_2; try clear hfz8_0; try clear hfz8_1; try clear hfz8_2; try clear hfz9_0; try clear hfz9_1; try clear hfz9_2)
     try clear p2
     obtain ⟨x3_2, rfl, HA, HK2, BK137, HB⟩ := hrel
     cases gk with
     | zero => exact absurd HA.out (by simp [spec_HardOk.l0])
     | succ k2 =>
      have H := HA.out
      clear HA
      simp only [spec_HardOk.l0] at H
      have hcz12_0 : wr.cell? ⟨gb137, 0, none⟩ = some (.int .i64 a0_0) := (blk_cell BK137.out 0).trans rfl
      have hcz12_1 : wr.cell? ⟨gb137, 1, none⟩ = some (.int .i64 a0_1) := (blk_cell BK137.out 1).trans rfl
      have hcz12_2 : wr.cell? ⟨gb137, 2, none⟩ = some (.slice A0_2 l0_2.length c0_2) := (blk_cell BK137.out 2).trans rfl
      have hfz12_0 := blk_frozen BK137.out 0
      have hfz12_1 := blk_frozen BK137.out 1
      have hfz12_2 := blk_frozen BK137.out 2
      go_upto_if 24 with (fail)
      by_cases c13 : x3_2 < (l0_2.length : Int)
      ·rw [if_pos c13] at H
       have c13b0 : decide (x3_2 < (l0_2.length : Int)) = true := decide_eq_true c13
       clear c13
       (first | rw [c13b0] | (simp only [i64_w, i32_w]; rw [c13b0]) | skip)
       by_cases c14 : 0 ≤ x3_2
       ·rw [if_pos c14] at H
        have c14b0 : decide (0 ≤ x3_2) = true := decide_eq_true c14
        clear c14
        replace H := Option.bind_eq_some_iff.mp H
        obtain ⟨t141, A150, H⟩ := H
        replace H : (if t141 = true then (if ((rd_T64 l0_2 x3_2).f0) > a0_0 then (some false) else (if x3_2 > 0 then (if 0 ≤ (wrap64 (x3_2 - 1)) then (if (wrap64 (x3_2 - 1)) < (l0_2.length : Int) then (if ((rd_T64 l0_2 x3_2).f0) < ((rd_T64 l0_2 (wrap64 (x3_2 - 1))).f0) then (some false) else (spec_HardOk.l0 k2 (wrap64 (x3_2 + 1)) a0_0 a0_1 l0_2)) else (none)) else (none)) else (spec_HardOk.l0 k2 (wrap64 (x3_2 + 1)) a0_0 a0_1 l0_2))) else (some false)) = some r := H
        have A15 := Aside0.mk A150
        clear A150
        by_cases c16 : t141 = true
        ·subst c16
         have H1 : (if ((rd_T64 l0_2 x3_2).f0) > a0_0 then (some false) else (if x3_2 > 0 then (if 0 ≤ (wrap64 (x3_2 - 1)) then (if (wrap64 (x3_2 - 1)) < (l0_2.length : Int) then (if ((rd_T64 l0_2 x3_2).f0) < ((rd_T64 l0_2 (wrap64 (x3_2 - 1))).f0) then (some false) else (spec_HardOk.l0 k2 (wrap64 (x3_2 + 1)) a0_0 a0_1 l0_2)) else (none)) else (none)) else (spec_HardOk.l0 k2 (wrap64 (x3_2 + 1)) a0_0 a0_1 l0_2))) = some r := by rw [if_pos rfl] at H; exact H
         clear H
         have H := H1
         clear H1
         by_cases c17 : ((rd_T64 l0_2 x3_2).f0) > a0_0
         ·rw [if_pos c17] at H
          have c17b0 : decide (a0_0 < ((rd_T64 l0_2 x3_2).f0)) = true := decide_eq_true c17
          clear c17
          obtain rfl := Option.some.inj H
          try go_wp2
          have n0_ := Aside0.mk (blk_drew BK137.out)
          have n1_ := Aside0.mk (below_drew1 HB.out)
          clear BK137
          clear HB
          have BK137 := n0_
          have HB := n1_
          clear n0_ n1_
          have p140 : 0 ≤ (x3_2 : Int) := of_decide_eq_true (by first | (with_reducible assumption) | assumption)
          have q140 : x3_2 < (l0_2.length : Int) := of_decide_eq_true (by first | (with_reducible assumption) | assumption)
          obtain ⟨ad140, e140, hx140_0, hx140_1, hx140_2, hx140_3, hx140_4, hx140_5⟩ := at_T64 HR0_2.out x3_2 p140 q140
          have hw140_5 := hx140_5
          have hw140_4 := hx140_4
          have hw140_3 := hx140_3
          have hw140_2 := hx140_2
          have hw140_1 := hx140_1
          have hw140_0 := hx140_0
          cases e140
          replace hx140_0 := (HB.out.cell (World.block_lt_of_cell? w _ hx140_0)).trans hx140_0
          replace hx140_1 := (HB.out.cell (World.block_lt_of_cell? w _ hx140_1)).trans hx140_1
          replace hx140_2 := (HB.out.cell (World.block_lt_of_cell? w _ hx140_2)).trans hx140_2
          replace hx140_3 := (HB.out.cell (World.block_lt_of_cell? w _ hx140_3)).trans hx140_3
          replace hx140_4 := (HB.out.cell (World.block_lt_of_cell? w _ hx140_4)).trans hx140_4
          replace hx140_5 := (HB.out.cell (World.block_lt_of_cell? w _ hx140_5)).trans hx140_5
          replace p140 := eq_true p140
          replace q140 := eq_true q140
          have p142 : 0 ≤ (x3_2 : Int) := of_decide_eq_true (by first | (with_reducible assumption) | assumption)
          have q142 : x3_2 < (l0_2.length : Int) := of_decide_eq_true (by first | (with_reducible assumption) | assumption)
          obtain ⟨ad142, e142, hx142_0, hx142_1, hx142_2, hx142_3, hx142_4, hx142_5⟩ := at_T64 HR0_2.out x3_2 p142 q142
          have hw142_5 := hx142_5
          have hw142_4 := hx142_4
          have hw142_3 := hx142_3
          have hw142_2 := hx142_2
          have hw142_1 := hx142_1
          have hw142_0 := hx142_0
          obtain rfl : ad140 = ad142 := (by injection e142)
          replace hx142_0 := (HB.out.cell (World.block_lt_of_cell? w _ hx142_0)).trans hx142_0
          replace hx142_1 := (HB.out.cell (World.block_lt_of_cell? w _ hx142_1)).trans hx142_1
          replace hx142_2 := (HB.out.cell (World.block_lt_of_cell? w _ hx142_2)).trans hx142_2
          replace hx142_3 := (HB.out.cell (World.block_lt_of_cell? w _ hx142_3)).trans hx142_3
          replace hx142_4 := (HB.out.cell (World.block_lt_of_cell? w _ hx142_4)).trans hx142_4
          replace hx142_5 := (HB.out.cell (World.block_lt_of_cell? w _ hx142_5)).trans hx142_5
          replace p142 := eq_true p142
          replace q142 := eq_true q142
          refine start_ (n := 38) (S := fun w' => w'.cell? ⟨gb137, 0, none⟩ = some (.int .i64 a0_0) ∧ w'.cell? ⟨gb137, 1, none⟩ = some (.int .i64 a0_1) ∧ w'.cell? ⟨gb137, 2, none⟩ = some (.slice (some ad140) l0_2.length c0_2) ∧ w'.cell? (ad140.add ((x3_2).toNat * 6)) = some (.int .i64 ((rd_T64 l0_2 x3_2).f0)) ∧ w'.cell? ⟨(ad140.add ((x3_2).toNat * 6)).block, (ad140.add ((x3_2).toNat * 6)).off + 1, none⟩ = some (.int .i64 ((rd_T64 l0_2 x3_2).f1.f0)) ∧ w'.cell? ⟨(ad140.add ((x3_2).toNat * 6)).block, (ad140.add ((x3_2).toNat * 6)).off + 2, none⟩ = some (.int .i64 ((rd_T64 l0_2 x3_2).f1.f1)) ∧ w'.cell? ⟨(ad140.add ((x3_2).toNat * 6)).block, (ad140.add ((x3_2).toNat * 6)).off + 3, none⟩ = some (.int .i64 ((rd_T64 l0_2 x3_2).f1.f2)) ∧ w'.cell? ⟨(ad140.add ((x3_2).toNat * 6)).block, (ad140.add ((x3_2).toNat * 6)).off + 4, none⟩ = some (.int .i64 ((rd_T64 l0_2 x3_2).f1.f3)) ∧ w'.cell? ⟨(ad140.add ((x3_2).toNat * 6)).block, (ad140.add ((x3_2).toNat * 6)).off + 5, none⟩ = some (.string ((rd_T64 l0_2 x3_2).f1.f4)) ∧ w'.cell? (ad140.add ((x3_2).toNat * 6)) = some (.int .i64 ((rd_T64 l0_2 x3_2).f0)) ∧ w'.cell? ⟨(ad140.add ((x3_2).toNat * 6)).block, (ad140.add ((x3_2).toNat * 6)).off + 1, none⟩ = some (.int .i64 ((rd_T64 l0_2 x3_2).f1.f0)) ∧ w'.cell? ⟨(ad140.add ((x3_2).toNat * 6)).block, (ad140.add ((x3_2).toNat * 6)).off + 2, none⟩ = some (.int .i64 ((rd_T64 l0_2 x3_2).f1.f1)) ∧ w'.cell? ⟨(ad140.add ((x3_2).toNat * 6)).block, (ad140.add ((x3_2).toNat * 6)).off + 3, none⟩ = some (.int .i64 ((rd_T64 l0_2 x3_2).f1.f2)) ∧ w'.cell? ⟨(ad140.add ((x3_2).toNat * 6)).block, (ad140.add ((x3_2).toNat * 6)).off + 4, none⟩ = some (.int .i64 ((rd_T64 l0_2 x3_2).f1.f3)) ∧ w'.cell? ⟨(ad140.add ((x3_2).toNat * 6)).block, (ad140.add ((x3_2).toNat * 6)).off + 5, none⟩ = some (.string ((rd_T64 l0_2 x3_2).f1.f4))) (ds := []) m5_0 (by kernel_rfl) rfl rfl ⟨(blk_cell BK137.out 0).trans rfl, (blk_cell BK137.out 1).trans rfl, (blk_cell BK137.out 2).trans rfl, ((HB.out.cell (World.block_lt_of_cell? w _ hw140_0)).trans hw140_0), ((HB.out.cell (World.block_lt_of_cell? w _ hw140_1)).trans hw140_1), ((HB.out.cell (World.block_lt_of_cell? w _ hw140_2)).trans hw140_2), ((HB.out.cell (World.block_lt_of_cell? w _ hw140_3)).trans hw140_3), ((HB.out.cell (World.block_lt_of_cell? w _ hw140_4)).trans hw140_4), ((HB.out.cell (World.block_lt_of_cell? w _ hw140_5)).trans hw140_5), ((HB.out.cell (World.block_lt_of_cell? w _ hw142_0)).trans hw142_0), ((HB.out.cell (World.block_lt_of_cell? w _ hw142_1)).trans hw142_1), ((HB.out.cell (World.block_lt_of_cell? w _ hw142_2)).trans hw142_2), ((HB.out.cell (World.block_lt_of_cell? w _ hw142_3)).trans hw142_3), ((HB.out.cell (World.block_lt_of_cell? w _ hw142_4)).trans hw142_4), ((HB.out.cell (World.block_lt_of_cell? w _ hw142_5)).trans hw142_5)⟩ (fun hHeld => ?_); refine with_tabW spec_HardOk.tab6 spec_HardOk.bits6 (fun HT_ HW_ => ?_)
          generalize wr.drew = w18 at BK137 HB hx140_0 hx140_1 hx140_2 hx140_3 hx140_4 hx140_5 hx142_0 hx142_1 hx142_2 hx142_3 hx142_4 hx142_5 hHeld ⊢
          refine p5_ 0 (some 27) m5_1 (any_of HT_.out (by kernel_rfl)) ?_
          refine p5_ 2 (some 29) m5_2 (any_of HT_.out (by kernel_rfl)) ?_
          refine take_ (i := 1) (N := some 28) (v := ?_) (a' := ?_) m5_3 rfl rfl (take_ofW HT_.out HW_.out (by kernel_rfl)) (fun _ _ _ h => h) (Or.inl ⟨by rfl, ?_⟩) hHeld ?_ ?_
          rotate_left
          ·rintro w' ⟨s0, s1, s2, s3, s4, s5, s6, s7, s8, s9, s10, s11, s12, s13, s14⟩
           go_simp
           with_reducible rfl
          rotate_left
          ·simp only [Act.put, List.setIfInBounds_toArray, List.set_cons_zero, List.set_cons_succ, i64_w, i32_w]
           rfl
          refine p5_ 3 (some 30) m5_4 (any_of HT_.out (by kernel_rfl)) ?_
          refine take_ (i := 4) (N := some 31) (v := ?_) (a' := ?_) m5_5 rfl rfl (take_ofW HT_.out HW_.out (by kernel_rfl)) (fun _ _ _ h => h) (Or.inl ⟨by rfl, ?_⟩) hHeld ?_ ?_
          rotate_left
          ·rintro w' ⟨s0, s1, s2, s3, s4, s5, s6, s7, s8, s9, s10, s11, s12, s13, s14⟩
           go_simp
           with_reducible rfl
          rotate_left
          ·simp only [Act.put, List.setIfInBounds_toArray, List.set_cons_zero, List.set_cons_succ, i64_w, i32_w]
           rfl
          refine one_ (i := 5) (N := some 32) m5_6 rfl rfl (one_of HT_.out (by kernel_rfl)) (by decide) (fun K hK => ?_)
          refine goes_ Try.func43 (by kernel_rfl) rfl #[.agg #[.int .i64 ((rd_T64 l0_2 x3_2).f0), .int .i64 ((rd_T64 l0_2 x3_2).f1.f0), .int .i64 ((rd_T64 l0_2 x3_2).f1.f1), .int .i64 ((rd_T64 l0_2 x3_2).f1.f2), .int .i64 ((rd_T64 l0_2 x3_2).f1.f3), .string ((rd_T64 l0_2 x3_2).f1.f4)]] (by rfl) rfl rfl (by (try simp only [List.map_toArray, List.map_cons, List.map_nil]); first | done | rfl | (simp only [List.length_drop, List.length_take]; rfl)) ?_
          with_reducible refine (spec_l6Entry.calls k2 ((rd_T64 l0_2 x3_2).f0) ((rd_T64 l0_2 x3_2).f1.f0) ((rd_T64 l0_2 x3_2).f1.f1) ((rd_T64 l0_2 x3_2).f1.f2) ((rd_T64 l0_2 x3_2).f1.f3) ((rd_T64 l0_2 x3_2).f1.f4) true _ A15.out).mono ?_
          rintro e w19 ⟨rfl, hb⟩
          refine ⟨_, rfl, ?_⟩
          have n0_ := Aside0.mk (blk_below (g := gb137) (o := .cells #[.int .i64 a0_0, .int .i64 a0_1, .slice (some ad140) l0_2.length c0_2] 32 (0, 0)) (by (with_reducible repeat (first | refine blk_drewN ?_ _ | refine blk_drew ?_ | refine blk_alloc ?_ _)); exact BK137.out) hb)
          have n1_ := Aside0.mk (below_step (by repeat (first | (with_reducible first | exact HB.out | apply below_alloc | apply pw_below_drewN | apply below_drew1 | refine below_set ?_ GE137.out) | exact HB.out)) hb)
          clear BK137
          clear HB
          have BK137 := n0_
          have HB := n1_
          clear n0_ n1_
          (try clear hb)
          (try clear hb2)
          (try clear hk)
          (try clear hi)
          refine hK.out _ _ ⟨(blk_cell BK137.out 0).trans rfl, (blk_cell BK137.out 1).trans rfl, (blk_cell BK137.out 2).trans rfl, ((HB.out.cell (World.block_lt_of_cell? w _ hw140_0)).trans hw140_0), ((HB.out.cell (World.block_lt_of_cell? w _ hw140_1)).trans hw140_1), ((HB.out.cell (World.block_lt_of_cell? w _ hw140_2)).trans hw140_2), ((HB.out.cell (World.block_lt_of_cell? w _ hw140_3)).trans hw140_3), ((HB.out.cell (World.block_lt_of_cell? w _ hw140_4)).trans hw140_4), ((HB.out.cell (World.block_lt_of_cell? w _ hw140_5)).trans hw140_5), ((HB.out.cell (World.block_lt_of_cell? w _ hw142_0)).trans hw142_0), ((HB.out.cell (World.block_lt_of_cell? w _ hw142_1)).trans hw142_1), ((HB.out.cell (World.block_lt_of_cell? w _ hw142_2)).trans hw142_2), ((HB.out.cell (World.block_lt_of_cell? w _ hw142_3)).trans hw142_3), ((HB.out.cell (World.block_lt_of_cell? w _ hw142_4)).trans hw142_4), ((HB.out.cell (World.block_lt_of_cell? w _ hw142_5)).trans hw142_5)⟩ (fun hHeld => ?_)
          clear hK K
          refine norm_ (a' := ?_) ?_ ?_
          rotate_left
          ·show Act.put _ (some 32) _ = _
           simp only [Act.put, List.setIfInBounds_toArray, List.set_cons_zero, List.set_cons_succ, i64_w, i32_w]
           rfl
          refine p5_ 6 (some 33) m5_7 (any_of HT_.out (by kernel_rfl)) ?_
          refine p5_ 7 (some 34) m5_8 (any_of HT_.out (by kernel_rfl)) ?_
          refine p5_ 8 (some 35) m5_9 (any_of HT_.out (by kernel_rfl)) ?_
          refine p5_ 10 (some 37) m5_26 (any_of HT_.out (by kernel_rfl)) ?_
          refine p5_ 14 (some 41) m5_27 (any_of HT_.out (by kernel_rfl)) ?_
          refine take_ (i := 9) (N := some 36) (v := ?_) (a' := ?_) m5_28 rfl rfl (take_ofW HT_.out HW_.out (by kernel_rfl)) (fun _ _ _ h => h) (Or.inl ⟨by rfl, ?_⟩) hHeld ?_ ?_
          rotate_left
          ·rintro w' ⟨s0, s1, s2, s3, s4, s5, s6, s7, s8, s9, s10, s11, s12, s13, s14⟩
           go_simp
           with_reducible rfl
          rotate_left
          ·simp only [Act.put, List.setIfInBounds_toArray, List.set_cons_zero, List.set_cons_succ, i64_w, i32_w]
           rfl
          refine p5_ 11 (some 38) m5_29 (any_of HT_.out (by kernel_rfl)) ?_
          refine p5_ 12 (some 39) m5_30 (any_of HT_.out (by kernel_rfl)) ?_
          refine take_ (i := 13) (N := some 40) (v := ?_) (a' := ?_) m5_10 rfl rfl (take_ofW HT_.out HW_.out (by kernel_rfl)) (fun _ _ _ h => h) (Or.inl ⟨by rfl, ?_⟩) hHeld ?_ ?_
          rotate_left
          ·rintro w' ⟨s0, s1, s2, s3, s4, s5, s6, s7, s8, s9, s10, s11, s12, s13, s14⟩
           go_simp
           with_reducible rfl
          rotate_left
          ·simp only [Act.put, List.setIfInBounds_toArray, List.set_cons_zero, List.set_cons_succ, i64_w, i32_w]
           rfl
          refine take_ (i := 15) (N := some 42) (v := ?_) (a' := ?_) m5_11 rfl rfl (take_ofW HT_.out HW_.out (by kernel_rfl)) (fun _ _ _ h => h) (Or.inl ⟨by rfl, ?_⟩) hHeld ?_ ?_
          rotate_left
          ·rintro w' ⟨s0, s1, s2, s3, s4, s5, s6, s7, s8, s9, s10, s11, s12, s13, s14⟩
           go_simp
           with_reducible rfl
          rotate_left
          ·simp only [Act.put, List.setIfInBounds_toArray, List.set_cons_zero, List.set_cons_succ, i64_w, i32_w]
           rfl
          refine p5_ 16 (some 43) m5_12 (any_of HT_.out (by kernel_rfl)) ?_
          refine p5_ 17 (some 44) m5_13 (any_of HT_.out (by kernel_rfl)) ?_
          refine p5_ 18 (some 45) m5_14 (any_of HT_.out (by kernel_rfl)) ?_
          refine u5_ 19 (some 46) m5_15 (any_of HT_.out (by kernel_rfl)) ?_
          refine u5_ 20 (some 47) m5_16 (any_of HT_.out (by kernel_rfl)) ?_
          refine u5_ 21 (some 48) m5_17 (any_of HT_.out (by kernel_rfl)) ?_
          refine u5_ 22 (some 49) m5_18 (any_of HT_.out (by kernel_rfl)) ?_
          refine u5_ 23 (some 50) m5_31 (any_of HT_.out (by kernel_rfl)) ?_
          refine u5_ 24 (some 51) m5_32 (any_of HT_.out (by kernel_rfl)) ?_
          refine u5_ 25 (some 52) m5_33 (any_of HT_.out (by kernel_rfl)) ?_
          refine u5_ 26 (some 53) m5_34 (any_of HT_.out (by kernel_rfl)) ?_
          refine u5_ 27 (some 54) m5_35 (any_of HT_.out (by kernel_rfl)) ?_
          refine u5_ 28 (some 55) m5_36 (any_of HT_.out (by kernel_rfl)) ?_
          refine u5_ 29 (some 56) m5_37 (any_of HT_.out (by kernel_rfl)) ?_
          refine u5_ 30 (some 57) m5_38 (any_of HT_.out (by kernel_rfl)) ?_
          refine u5_ 31 (some 58) m5_19 (any_of HT_.out (by kernel_rfl)) ?_
          refine u5_ 32 (some 59) m5_20 (any_of HT_.out (by kernel_rfl)) ?_
          refine u5_ 33 (some 60) m5_21 (any_of HT_.out (by kernel_rfl)) ?_
          refine u5_ 34 (some 61) m5_22 (any_of HT_.out (by kernel_rfl)) ?_
          refine u5_ 35 (some 62) m5_23 (any_of HT_.out (by kernel_rfl)) ?_
          refine u5_ 36 (some 63) m5_24 (any_of HT_.out (by kernel_rfl)) ?_
          refine p5_ 37 (some 64) m5_25 (any_of HT_.out (by kernel_rfl)) ?_
          refine done_ (done_of HT_.out (by kernel_rfl)) ?_
          try go_wp2
          go_ret
          exact ⟨by first | rfl | (simp [errW_none, errW_some] <;> rfl) | (simp [*, errW_none, errW_some] <;> rfl), by repeat (first | (with_reducible first | exact HB.out | apply below_alloc | apply pw_below_drewN | apply below_drew1 | refine below_set ?_ GE137.out) | exact HB.out)⟩
         ·rw [if_neg c17] at H
          have c17b0 : decide (a0_0 < ((rd_T64 l0_2 x3_2).f0)) = false := decide_eq_false c17
          clear c17
          by_cases c20 : x3_2 > 0
          ·rw [if_pos c20] at H
           have c20b0 : decide (0 < x3_2) = true := decide_eq_true c20
           clear c20
           obtain ⟨ji21, hji21⟩ : ∃ j_ : Int, (wrap64 (x3_2 - 1)) = j_ := ⟨_, rfl⟩
           replace H : (if 0 ≤ (ji21) then (if (ji21) < (l0_2.length : Int) then (if ((rd_T64 l0_2 x3_2).f0) < ((rd_T64 l0_2 (ji21)).f0) then (some false) else (spec_HardOk.l0 k2 (wrap64 (x3_2 + 1)) a0_0 a0_1 l0_2)) else (none)) else (none)) = some r := by first | (rw [hji21] at H; exact H) | (simp only [hji21] at H ⊢; exact H)
           (try rw [hji21] at A15)
           have hji21w : (IntKind.i64.wrap (x3_2 - 1)) = ji21 := (i64_w _).trans hji21
           by_cases c22 : 0 ≤ (ji21)
           ·rw [if_pos c22] at H
            have c22b0 : decide (0 ≤ (ji21)) = true := decide_eq_true c22
            clear c22
            by_cases c23 : (ji21) < (l0_2.length : Int)
            ·rw [if_pos c23] at H
             have c23b0 : decide ((ji21) < (l0_2.length : Int)) = true := decide_eq_true c23
             clear c23
             try go_wp2
             have n0_ := Aside0.mk (blk_drew BK137.out)
             have n1_ := Aside0.mk (below_drew1 HB.out)
             clear BK137
             clear HB
             have BK137 := n0_
             have HB := n1_
             clear n0_ n1_
             have p140 : 0 ≤ (x3_2 : Int) := of_decide_eq_true (by first | (with_reducible assumption) | assumption)
             have q140 : x3_2 < (l0_2.length : Int) := of_decide_eq_true (by first | (with_reducible assumption) | assumption)
             obtain ⟨ad140, e140, hx140_0, hx140_1, hx140_2, hx140_3, hx140_4, hx140_5⟩ := at_T64 HR0_2.out x3_2 p140 q140
             have hw140_5 := hx140_5
             have hw140_4 := hx140_4
             have hw140_3 := hx140_3
             have hw140_2 := hx140_2
             have hw140_1 := hx140_1
             have hw140_0 := hx140_0
             cases e140
             replace hx140_0 := (HB.out.cell (World.block_lt_of_cell? w _ hx140_0)).trans hx140_0
             replace hx140_1 := (HB.out.cell (World.block_lt_of_cell? w _ hx140_1)).trans hx140_1
             replace hx140_2 := (HB.out.cell (World.block_lt_of_cell? w _ hx140_2)).trans hx140_2
             replace hx140_3 := (HB.out.cell (World.block_lt_of_cell? w _ hx140_3)).trans hx140_3
             replace hx140_4 := (HB.out.cell (World.block_lt_of_cell? w _ hx140_4)).trans hx140_4
             replace hx140_5 := (HB.out.cell (World.block_lt_of_cell? w _ hx140_5)).trans hx140_5
             replace p140 := eq_true p140
             replace q140 := eq_true q140
             have p142 : 0 ≤ (x3_2 : Int) := of_decide_eq_true (by first | (with_reducible assumption) | assumption)
             have q142 : x3_2 < (l0_2.length : Int) := of_decide_eq_true (by first | (with_reducible assumption) | assumption)
             obtain ⟨ad142, e142, hx142_0, hx142_1, hx142_2, hx142_3, hx142_4, hx142_5⟩ := at_T64 HR0_2.out x3_2 p142 q142
             have hw142_5 := hx142_5
             have hw142_4 := hx142_4
             have hw142_3 := hx142_3
             have hw142_2 := hx142_2
             have hw142_1 := hx142_1
             have hw142_0 := hx142_0
             obtain rfl : ad140 = ad142 := (by injection e142)
             replace hx142_0 := (HB.out.cell (World.block_lt_of_cell? w _ hx142_0)).trans hx142_0
             replace hx142_1 := (HB.out.cell (World.block_lt_of_cell? w _ hx142_1)).trans hx142_1
             replace hx142_2 := (HB.out.cell (World.block_lt_of_cell? w _ hx142_2)).trans hx142_2
             replace hx142_3 := (HB.out.cell (World.block_lt_of_cell? w _ hx142_3)).trans hx142_3
             replace hx142_4 := (HB.out.cell (World.block_lt_of_cell? w _ hx142_4)).trans hx142_4
             replace hx142_5 := (HB.out.cell (World.block_lt_of_cell? w _ hx142_5)).trans hx142_5
             replace p142 := eq_true p142
             replace q142 := eq_true q142
             have p143 : 0 ≤ (x3_2 : Int) := of_decide_eq_true (by first | (with_reducible assumption) | assumption)
             have q143 : x3_2 < (l0_2.length : Int) := of_decide_eq_true (by first | (with_reducible assumption) | assumption)
             obtain ⟨ad143, e143, hx143_0, hx143_1, hx143_2, hx143_3, hx143_4, hx143_5⟩ := at_T64 HR0_2.out x3_2 p143 q143
             have hw143_5 := hx143_5
             have hw143_4 := hx143_4
             have hw143_3 := hx143_3
             have hw143_2 := hx143_2
             have hw143_1 := hx143_1
             have hw143_0 := hx143_0
             obtain rfl : ad140 = ad143 := (by injection e143)
             replace hx143_0 := (HB.out.cell (World.block_lt_of_cell? w _ hx143_0)).trans hx143_0
             replace hx143_1 := (HB.out.cell (World.block_lt_of_cell? w _ hx143_1)).trans hx143_1
             replace hx143_2 := (HB.out.cell (World.block_lt_of_cell? w _ hx143_2)).trans hx143_2
             replace hx143_3 := (HB.out.cell (World.block_lt_of_cell? w _ hx143_3)).trans hx143_3
             replace hx143_4 := (HB.out.cell (World.block_lt_of_cell? w _ hx143_4)).trans hx143_4
             replace hx143_5 := (HB.out.cell (World.block_lt_of_cell? w _ hx143_5)).trans hx143_5
             replace p143 := eq_true p143
             replace q143 := eq_true q143
             have p144 : 0 ≤ ((ji21) : Int) := of_decide_eq_true (by first | (with_reducible assumption) | assumption)
             have q144 : (ji21) < (l0_2.length : Int) := of_decide_eq_true (by first | (with_reducible assumption) | assumption)
             obtain ⟨ad144, e144, hx144_0, hx144_1, hx144_2, hx144_3, hx144_4, hx144_5⟩ := at_T64 HR0_2.out (ji21) p144 q144
             have hw144_5 := hx144_5
             have hw144_4 := hx144_4
             have hw144_3 := hx144_3
             have hw144_2 := hx144_2
             have hw144_1 := hx144_1
             have hw144_0 := hx144_0
             obtain rfl : ad140 = ad144 := (by injection e144)
             replace hx144_0 := (HB.out.cell (World.block_lt_of_cell? w _ hx144_0)).trans hx144_0
             replace hx144_1 := (HB.out.cell (World.block_lt_of_cell? w _ hx144_1)).trans hx144_1
             replace hx144_2 := (HB.out.cell (World.block_lt_of_cell? w _ hx144_2)).trans hx144_2
             replace hx144_3 := (HB.out.cell (World.block_lt_of_cell? w _ hx144_3)).trans hx144_3
             replace hx144_4 := (HB.out.cell (World.block_lt_of_cell? w _ hx144_4)).trans hx144_4
             replace hx144_5 := (HB.out.cell (World.block_lt_of_cell? w _ hx144_5)).trans hx144_5
             replace p144 := eq_true p144
             replace q144 := eq_true q144
             refine start_ (n := 38) (S := fun w' => w'.cell? ⟨gb137, 0, none⟩ = some (.int .i64 a0_0) ∧ w'.cell? ⟨gb137, 1, none⟩ = some (.int .i64 a0_1) ∧ w'.cell? ⟨gb137, 2, none⟩ = some (.slice (some ad140) l0_2.length c0_2) ∧ w'.cell? (ad140.add ((x3_2).toNat * 6)) = some (.int .i64 ((rd_T64 l0_2 x3_2).f0)) ∧ w'.cell? ⟨(ad140.add ((x3_2).toNat * 6)).block, (ad140.add ((x3_2).toNat * 6)).off + 1, none⟩ = some (.int .i64 ((rd_T64 l0_2 x3_2).f1.f0)) ∧ w'.cell? ⟨(ad140.add ((x3_2).toNat * 6)).block, (ad140.add ((x3_2).toNat * 6)).off + 2, none⟩ = some (.int .i64 ((rd_T64 l0_2 x3_2).f1.f1)) ∧ w'.cell? ⟨(ad140.add ((x3_2).toNat * 6)).block, (ad140.add ((x3_2).toNat * 6)).off + 3, none⟩ = some (.int .i64 ((rd_T64 l0_2 x3_2).f1.f2)) ∧ w'.cell? ⟨(ad140.add ((x3_2).toNat * 6)).block, (ad140.add ((x3_2).toNat * 6)).off + 4, none⟩ = some (.int .i64 ((rd_T64 l0_2 x3_2).f1.f3)) ∧ w'.cell? ⟨(ad140.add ((x3_2).toNat * 6)).block, (ad140.add ((x3_2).toNat * 6)).off + 5, none⟩ = some (.string ((rd_T64 l0_2 x3_2).f1.f4)) ∧ w'.cell? (ad140.add ((x3_2).toNat * 6)) = some (.int .i64 ((rd_T64 l0_2 x3_2).f0)) ∧ w'.cell? ⟨(ad140.add ((x3_2).toNat * 6)).block, (ad140.add ((x3_2).toNat * 6)).off + 1, none⟩ = some (.int .i64 ((rd_T64 l0_2 x3_2).f1.f0)) ∧ w'.cell? ⟨(ad140.add ((x3_2).toNat * 6)).block, (ad140.add ((x3_2).toNat * 6)).off + 2, none⟩ = some (.int .i64 ((rd_T64 l0_2 x3_2).f1.f1)) ∧ w'.cell? ⟨(ad140.add ((x3_2).toNat * 6)).block, (ad140.add ((x3_2).toNat * 6)).off + 3, none⟩ = some (.int .i64 ((rd_T64 l0_2 x3_2).f1.f2)) ∧ w'.cell? ⟨(ad140.add ((x3_2).toNat * 6)).block, (ad140.add ((x3_2).toNat * 6)).off + 4, none⟩ = some (.int .i64 ((rd_T64 l0_2 x3_2).f1.f3)) ∧ w'.cell? ⟨(ad140.add ((x3_2).toNat * 6)).block, (ad140.add ((x3_2).toNat * 6)).off + 5, none⟩ = some (.string ((rd_T64 l0_2 x3_2).f1.f4)) ∧ w'.cell? (ad140.add ((x3_2).toNat * 6)) = some (.int .i64 ((rd_T64 l0_2 x3_2).f0)) ∧ w'.cell? ⟨(ad140.add ((x3_2).toNat * 6)).block, (ad140.add ((x3_2).toNat * 6)).off + 1, none⟩ = some (.int .i64 ((rd_T64 l0_2 x3_2).f1.f0)) ∧ w'.cell? ⟨(ad140.add ((x3_2).toNat * 6)).block, (ad140.add ((x3_2).toNat * 6)).off + 2, none⟩ = some (.int .i64 ((rd_T64 l0_2 x3_2).f1.f1)) ∧ w'.cell? ⟨(ad140.add ((x3_2).toNat * 6)).block, (ad140.add ((x3_2).toNat * 6)).off + 3, none⟩ = some (.int .i64 ((rd_T64 l0_2 x3_2).f1.f2)) ∧ w'.cell? ⟨(ad140.add ((x3_2).toNat * 6)).block, (ad140.add ((x3_2).toNat * 6)).off + 4, none⟩ = some (.int .i64 ((rd_T64 l0_2 x3_2).f1.f3)) ∧ w'.cell? ⟨(ad140.add ((x3_2).toNat * 6)).block, (ad140.add ((x3_2).toNat * 6)).off + 5, none⟩ = some (.string ((rd_T64 l0_2 x3_2).f1.f4)) ∧ w'.cell? (ad140.add (((ji21)).toNat * 6)) = some (.int .i64 ((rd_T64 l0_2 (ji21)).f0)) ∧ w'.cell? ⟨(ad140.add (((ji21)).toNat * 6)).block, (ad140.add (((ji21)).toNat * 6)).off + 1, none⟩ = some (.int .i64 ((rd_T64 l0_2 (ji21)).f1.f0)) ∧ w'.cell? ⟨(ad140.add (((ji21)).toNat * 6)).block, (ad140.add (((ji21)).toNat * 6)).off + 2, none⟩ = some (.int .i64 ((rd_T64 l0_2 (ji21)).f1.f1)) ∧ w'.cell? ⟨(ad140.add (((ji21)).toNat * 6)).block, (ad140.add (((ji21)).toNat * 6)).off + 3, none⟩ = some (.int .i64 ((rd_T64 l0_2 (ji21)).f1.f2)) ∧ w'.cell? ⟨(ad140.add (((ji21)).toNat * 6)).block, (ad140.add (((ji21)).toNat * 6)).off + 4, none⟩ = some (.int .i64 ((rd_T64 l0_2 (ji21)).f1.f3)) ∧ w'.cell? ⟨(ad140.add (((ji21)).toNat * 6)).block, (ad140.add (((ji21)).toNat * 6)).off + 5, none⟩ = some (.string ((rd_T64 l0_2 (ji21)).f1.f4))) (ds := []) m5_0 (by kernel_rfl) rfl rfl ⟨(blk_cell BK137.out 0).trans rfl, (blk_cell BK137.out 1).trans rfl, (blk_cell BK137.out 2).trans rfl, ((HB.out.cell (World.block_lt_of_cell? w _ hw140_0)).trans hw140_0), ((HB.out.cell (World.block_lt_of_cell? w _ hw140_1)).trans hw140_1), ((HB.out.cell (World.block_lt_of_cell? w _ hw140_2)).trans hw140_2), ((HB.out.cell (World.block_lt_of_cell? w _ hw140_3)).trans hw140_3), ((HB.out.cell (World.block_lt_of_cell? w _ hw140_4)).trans hw140_4), ((HB.out.cell (World.block_lt_of_cell? w _ hw140_5)).trans hw140_5), ((HB.out.cell (World.block_lt_of_cell? w _ hw142_0)).trans hw142_0), ((HB.out.cell (World.block_lt_of_cell? w _ hw142_1)).trans hw142_1), ((HB.out.cell (World.block_lt_of_cell? w _ hw142_2)).trans hw142_2), ((HB.out.cell (World.block_lt_of_cell? w _ hw142_3)).trans hw142_3), ((HB.out.cell (World.block_lt_of_cell? w _ hw142_4)).trans hw142_4), ((HB.out.cell (World.block_lt_of_cell? w _ hw142_5)).trans hw142_5), ((HB.out.cell (World.block_lt_of_cell? w _ hw143_0)).trans hw143_0), ((HB.out.cell (World.block_lt_of_cell? w _ hw143_1)).trans hw143_1), ((HB.out.cell (World.block_lt_of_cell? w _ hw143_2)).trans hw143_2), ((HB.out.cell (World.block_lt_of_cell? w _ hw143_3)).trans hw143_3), ((HB.out.cell (World.block_lt_of_cell? w _ hw143_4)).trans hw143_4), ((HB.out.cell (World.block_lt_of_cell? w _ hw143_5)).trans hw143_5), ((HB.out.cell (World.block_lt_of_cell? w _ hw144_0)).trans hw144_0), ((HB.out.cell (World.block_lt_of_cell? w _ hw144_1)).trans hw144_1), ((HB.out.cell (World.block_lt_of_cell? w _ hw144_2)).trans hw144_2), ((HB.out.cell (World.block_lt_of_cell? w _ hw144_3)).trans hw144_3), ((HB.out.cell (World.block_lt_of_cell? w _ hw144_4)).trans hw144_4), ((HB.out.cell (World.block_lt_of_cell? w _ hw144_5)).trans hw144_5)⟩ (fun hHeld => ?_); refine with_tabW spec_HardOk.tab6 spec_HardOk.bits6 (fun HT_ HW_ => ?_)
             generalize wr.drew = w24 at BK137 HB hx140_0 hx140_1 hx140_2 hx140_3 hx140_4 hx140_5 hx142_0 hx142_1 hx142_2 hx142_3 hx142_4 hx142_5 hx143_0 hx143_1 hx143_2 hx143_3 hx143_4 hx143_5 hx144_0 hx144_1 hx144_2 hx144_3 hx144_4 hx144_5 hHeld ⊢
             refine p5_ 0 (some 27) m5_1 (any_of HT_.out (by kernel_rfl)) ?_
             refine p5_ 2 (some 29) m5_2 (any_of HT_.out (by kernel_rfl)) ?_
             refine take_ (i := 1) (N := some 28) (v := ?_) (a' := ?_) m5_3 rfl rfl (take_ofW HT_.out HW_.out (by kernel_rfl)) (fun _ _ _ h => h) (Or.inl ⟨by rfl, ?_⟩) hHeld ?_ ?_
             rotate_left
             ·rintro w' ⟨s0, s1, s2, s3, s4, s5, s6, s7, s8, s9, s10, s11, s12, s13, s14, s15, s16, s17, s18, s19, s20, s21, s22, s23, s24, s25, s26⟩
              go_simp
              with_reducible rfl
             rotate_left
             ·simp only [Act.put, List.setIfInBounds_toArray, List.set_cons_zero, List.set_cons_succ, i64_w, i32_w]
              rfl
             refine p5_ 3 (some 30) m5_4 (any_of HT_.out (by kernel_rfl)) ?_
             refine take_ (i := 4) (N := some 31) (v := ?_) (a' := ?_) m5_5 rfl rfl (take_ofW HT_.out HW_.out (by kernel_rfl)) (fun _ _ _ h => h) (Or.inl ⟨by rfl, ?_⟩) hHeld ?_ ?_
             rotate_left
             ·rintro w' ⟨s0, s1, s2, s3, s4, s5, s6, s7, s8, s9, s10, s11, s12, s13, s14, s15, s16, s17, s18, s19, s20, s21, s22, s23, s24, s25, s26⟩
              go_simp
              with_reducible rfl
             rotate_left
             ·simp only [Act.put, List.setIfInBounds_toArray, List.set_cons_zero, List.set_cons_succ, i64_w, i32_w]
              rfl
             refine one_ (i := 5) (N := some 32) m5_6 rfl rfl (one_of HT_.out (by kernel_rfl)) (by decide) (fun K hK => ?_)
             refine goes_ Try.func43 (by kernel_rfl) rfl #[.agg #[.int .i64 ((rd_T64 l0_2 x3_2).f0), .int .i64 ((rd_T64 l0_2 x3_2).f1.f0), .int .i64 ((rd_T64 l0_2 x3_2).f1.f1), .int .i64 ((rd_T64 l0_2 x3_2).f1.f2), .int .i64 ((rd_T64 l0_2 x3_2).f1.f3), .string ((rd_T64 l0_2 x3_2).f1.f4)]] (by rfl) rfl rfl (by (try simp only [List.map_toArray, List.map_cons, List.map_nil]); first | done | rfl | (simp only [List.length_drop, List.length_take]; rfl)) ?_
             with_reducible refine (spec_l6Entry.calls k2 ((rd_T64 l0_2 x3_2).f0) ((rd_T64 l0_2 x3_2).f1.f0) ((rd_T64 l0_2 x3_2).f1.f1) ((rd_T64 l0_2 x3_2).f1.f2) ((rd_T64 l0_2 x3_2).f1.f3) ((rd_T64 l0_2 x3_2).f1.f4) true _ A15.out).mono ?_
             rintro e w25 ⟨rfl, hb⟩
             refine ⟨_, rfl, ?_⟩
             have n0_ := Aside0.mk (blk_below (g := gb137) (o := .cells #[.int .i64 a0_0, .int .i64 a0_1, .slice (some ad140) l0_2.length c0_2] 32 (0, 0)) (by (with_reducible repeat (first | refine blk_drewN ?_ _ | refine blk_drew ?_ | refine blk_alloc ?_ _)); exact BK137.out) hb)
             have n1_ := Aside0.mk (below_step (by repeat (first | (with_reducible first | exact HB.out | apply below_alloc | apply pw_below_drewN | apply below_drew1 | refine below_set ?_ GE137.out) | exact HB.out)) hb)
             clear BK137
             clear HB
             have BK137 := n0_
             have HB := n1_
             clear n0_ n1_
             (try clear hb)
             (try clear hb2)
             (try clear hk)
             (try clear hi)
             refine hK.out _ _ ⟨(blk_cell BK137.out 0).trans rfl, (blk_cell BK137.out 1).trans rfl, (blk_cell BK137.out 2).trans rfl, ((HB.out.cell (World.block_lt_of_cell? w _ hw140_0)).trans hw140_0), ((HB.out.cell (World.block_lt_of_cell? w _ hw140_1)).trans hw140_1), ((HB.out.cell (World.block_lt_of_cell? w _ hw140_2)).trans hw140_2), ((HB.out.cell (World.block_lt_of_cell? w _ hw140_3)).trans hw140_3), ((HB.out.cell (World.block_lt_of_cell? w _ hw140_4)).trans hw140_4), ((HB.out.cell (World.block_lt_of_cell? w _ hw140_5)).trans hw140_5), ((HB.out.cell (World.block_lt_of_cell? w _ hw142_0)).trans hw142_0), ((HB.out.cell (World.block_lt_of_cell? w _ hw142_1)).trans hw142_1), ((HB.out.cell (World.block_lt_of_cell? w _ hw142_2)).trans hw142_2), ((HB.out.cell (World.block_lt_of_cell? w _ hw142_3)).trans hw142_3), ((HB.out.cell (World.block_lt_of_cell? w _ hw142_4)).trans hw142_4), ((HB.out.cell (World.block_lt_of_cell? w _ hw142_5)).trans hw142_5), ((HB.out.cell (World.block_lt_of_cell? w _ hw143_0)).trans hw143_0), ((HB.out.cell (World.block_lt_of_cell? w _ hw143_1)).trans hw143_1), ((HB.out.cell (World.block_lt_of_cell? w _ hw143_2)).trans hw143_2), ((HB.out.cell (World.block_lt_of_cell? w _ hw143_3)).trans hw143_3), ((HB.out.cell (World.block_lt_of_cell? w _ hw143_4)).trans hw143_4), ((HB.out.cell (World.block_lt_of_cell? w _ hw143_5)).trans hw143_5), ((HB.out.cell (World.block_lt_of_cell? w _ hw144_0)).trans hw144_0), ((HB.out.cell (World.block_lt_of_cell? w _ hw144_1)).trans hw144_1), ((HB.out.cell (World.block_lt_of_cell? w _ hw144_2)).trans hw144_2), ((HB.out.cell (World.block_lt_of_cell? w _ hw144_3)).trans hw144_3), ((HB.out.cell (World.block_lt_of_cell? w _ hw144_4)).trans hw144_4), ((HB.out.cell (World.block_lt_of_cell? w _ hw144_5)).trans hw144_5)⟩ (fun hHeld => ?_)
             clear hK K
             refine norm_ (a' := ?_) ?_ ?_
             rotate_left
             ·show Act.put _ (some 32) _ = _
              simp only [Act.put, List.setIfInBounds_toArray, List.set_cons_zero, List.set_cons_succ, i64_w, i32_w]
              rfl
             refine p5_ 6 (some 33) m5_7 (any_of HT_.out (by kernel_rfl)) ?_
             refine p5_ 7 (some 34) m5_8 (any_of HT_.out (by kernel_rfl)) ?_
             refine p5_ 8 (some 35) m5_9 (any_of HT_.out (by kernel_rfl)) ?_
             refine p5_ 10 (some 37) m5_26 (any_of HT_.out (by kernel_rfl)) ?_
             refine p5_ 14 (some 41) m5_27 (any_of HT_.out (by kernel_rfl)) ?_
             refine take_ (i := 9) (N := some 36) (v := ?_) (a' := ?_) m5_28 rfl rfl (take_ofW HT_.out HW_.out (by kernel_rfl)) (fun _ _ _ h => h) (Or.inl ⟨by rfl, ?_⟩) hHeld ?_ ?_
             rotate_left
             ·rintro w' ⟨s0, s1, s2, s3, s4, s5, s6, s7, s8, s9, s10, s11, s12, s13, s14, s15, s16, s17, s18, s19, s20, s21, s22, s23, s24, s25, s26⟩
              go_simp
              with_reducible rfl
             rotate_left
             ·simp only [Act.put, List.setIfInBounds_toArray, List.set_cons_zero, List.set_cons_succ, i64_w, i32_w]
              rfl
             refine p5_ 11 (some 38) m5_29 (any_of HT_.out (by kernel_rfl)) ?_
             refine p5_ 12 (some 39) m5_30 (any_of HT_.out (by kernel_rfl)) ?_
             refine take_ (i := 13) (N := some 40) (v := ?_) (a' := ?_) m5_10 rfl rfl (take_ofW HT_.out HW_.out (by kernel_rfl)) (fun _ _ _ h => h) (Or.inl ⟨by rfl, ?_⟩) hHeld ?_ ?_
             rotate_left
             ·rintro w' ⟨s0, s1, s2, s3, s4, s5, s6, s7, s8, s9, s10, s11, s12, s13, s14, s15, s16, s17, s18, s19, s20, s21, s22, s23, s24, s25, s26⟩
              go_simp
              with_reducible rfl
             rotate_left
             ·simp only [Act.put, List.setIfInBounds_toArray, List.set_cons_zero, List.set_cons_succ, i64_w, i32_w]
              rfl
             refine take_ (i := 15) (N := some 42) (v := ?_) (a' := ?_) m5_11 rfl rfl (take_ofW HT_.out HW_.out (by kernel_rfl)) (fun _ _ _ h => h) (Or.inl ⟨by rfl, ?_⟩) hHeld ?_ ?_
             rotate_left
             ·rintro w' ⟨s0, s1, s2, s3, s4, s5, s6, s7, s8, s9, s10, s11, s12, s13, s14, s15, s16, s17, s18, s19, s20, s21, s22, s23, s24, s25, s26⟩
              go_simp
              with_reducible rfl
             rotate_left
             ·simp only [Act.put, List.setIfInBounds_toArray, List.set_cons_zero, List.set_cons_succ, i64_w, i32_w]
              rfl
             refine p5_ 16 (some 43) m5_12 (any_of HT_.out (by kernel_rfl)) ?_
             refine p5_ 17 (some 44) m5_13 (any_of HT_.out (by kernel_rfl)) ?_
             refine p5_ 18 (some 45) m5_14 (any_of HT_.out (by kernel_rfl)) ?_
             refine p5_ 19 (some 46) m5_15 (any_of HT_.out (by kernel_rfl)) ?_
             refine p5_ 20 (some 47) m5_16 (any_of HT_.out (by kernel_rfl)) ?_
             refine p5_ 21 (some 48) m5_17 (any_of HT_.out (by kernel_rfl)) ?_
             refine p5_ 22 (some 49) m5_18 (any_of HT_.out (by kernel_rfl)) ?_
             refine p5_ 24 (some 51) #[true, true, true, true, true, true, true, true, true, true, true, true, true, true, true, true, true, true, true, true, true, true, true, false, true, false, false, false, false, false, false, false, false, false, false, false, false, false] (any_of HT_.out (by kernel_rfl)) ?_
             refine p5_ 28 (some 55) #[true, true, true, true, true, true, true, true, true, true, true, true, true, true, true, true, true, true, true, true, true, true, true, false, true, false, false, false, true, false, false, false, false, false, false, false, false, false] (any_of HT_.out (by kernel_rfl)) ?_
             refine p5_ 30 (some 57) #[true, true, true, true, true, true, true, true, true, true, true, true, true, true, true, true, true, true, true, true, true, true, true, false, true, false, false, false, true, false, true, false, false, false, false, false, false, false] (any_of HT_.out (by kernel_rfl)) ?_
             refine p5_ 31 (some 58) #[true, true, true, true, true, true, true, true, true, true, true, true, true, true, true, true, true, true, true, true, true, true, true, false, true, false, false, false, true, false, true, true, false, false, false, false, false, false] (any_of HT_.out (by kernel_rfl)) ?_
             refine take_ (i := 23) (N := some 50) (v := ?_) (a' := ?_) #[true, true, true, true, true, true, true, true, true, true, true, true, true, true, true, true, true, true, true, true, true, true, true, true, true, false, false, false, true, false, true, true, false, false, false, false, false, false] rfl rfl (take_ofW HT_.out HW_.out (by kernel_rfl)) (fun _ _ _ h => h) (Or.inl ⟨by rfl, ?_⟩) hHeld ?_ ?_
             rotate_left
             ·rintro w' ⟨s0, s1, s2, s3, s4, s5, s6, s7, s8, s9, s10, s11, s12, s13, s14, s15, s16, s17, s18, s19, s20, s21, s22, s23, s24, s25, s26⟩
              go_simp
              with_reducible rfl
             rotate_left
             ·simp only [Act.put, List.setIfInBounds_toArray, List.set_cons_zero, List.set_cons_succ, i64_w, i32_w]
              rfl
             refine p5_ 25 (some 52) #[true, true, true, true, true, true, true, true, true, true, true, true, true, true, true, true, true, true, true, true, true, true, true, true, true, true, false, false, true, false, true, true, false, false, false, false, false, false] (any_of HT_.out (by kernel_rfl)) ?_
             refine p5_ 26 (some 53) #[true, true, true, true, true, true, true, true, true, true, true, true, true, true, true, true, true, true, true, true, true, true, true, true, true, true, true, false, true, false, true, true, false, false, false, false, false, false] (any_of HT_.out (by kernel_rfl)) ?_
             refine take_ (i := 27) (N := some 54) (v := ?_) (a' := ?_) #[true, true, true, true, true, true, true, true, true, true, true, true, true, true, true, true, true, true, true, true, true, true, true, true, true, true, true, true, true, false, true, true, false, false, false, false, false, false] rfl rfl (take_ofW HT_.out HW_.out (by kernel_rfl)) (fun _ _ _ h => h) (Or.inl ⟨by rfl, ?_⟩) hHeld ?_ ?_
             rotate_left
             ·rintro w' ⟨s0, s1, s2, s3, s4, s5, s6, s7, s8, s9, s10, s11, s12, s13, s14, s15, s16, s17, s18, s19, s20, s21, s22, s23, s24, s25, s26⟩
              go_simp
              with_reducible rfl
             rotate_left
             ·simp only [Act.put, List.setIfInBounds_toArray, List.set_cons_zero, List.set_cons_succ, i64_w, i32_w]
              rfl
             refine take_ (i := 29) (N := some 56) (v := ?_) (a' := ?_) m5_19 rfl rfl (take_ofW HT_.out HW_.out (by kernel_rfl)) (fun _ _ _ h => h) (Or.inl ⟨by rfl, ?_⟩) hHeld ?_ ?_
             rotate_left
             ·rintro w' ⟨s0, s1, s2, s3, s4, s5, s6, s7, s8, s9, s10, s11, s12, s13, s14, s15, s16, s17, s18, s19, s20, s21, s22, s23, s24, s25, s26⟩
              go_simp
              with_reducible rfl
             rotate_left
             ·simp only [Act.put, List.setIfInBounds_toArray, List.set_cons_zero, List.set_cons_succ, i64_w, i32_w]
              rfl
             refine p5_ 32 (some 59) m5_20 (any_of HT_.out (by kernel_rfl)) ?_
             refine p5_ 33 (some 60) m5_21 (any_of HT_.out (by kernel_rfl)) ?_
             refine take_ (i := 34) (N := some 61) (v := ?_) (a' := ?_) m5_22 rfl rfl (take_ofW HT_.out HW_.out (by kernel_rfl)) (fun _ _ _ h => h) (Or.inl ⟨by rfl, ?_⟩) hHeld ?_ ?_
             rotate_left
             ·rintro w' ⟨s0, s1, s2, s3, s4, s5, s6, s7, s8, s9, s10, s11, s12, s13, s14, s15, s16, s17, s18, s19, s20, s21, s22, s23, s24, s25, s26⟩
              go_simp
              with_reducible rfl
             rotate_left
             ·simp only [Act.put, List.setIfInBounds_toArray, List.set_cons_zero, List.set_cons_succ, i64_w, i32_w]
              rfl
             refine p5_ 35 (some 62) m5_23 (any_of HT_.out (by kernel_rfl)) ?_
             refine p5_ 36 (some 63) m5_24 (any_of HT_.out (by kernel_rfl)) ?_
             refine p5_ 37 (some 64) m5_25 (any_of HT_.out (by kernel_rfl)) ?_
             refine done_ (done_of HT_.out (by kernel_rfl)) ?_
             go_upto_if 64 with (fail)
             by_cases c26 : ((rd_T64 l0_2 x3_2).f0) < ((rd_T64 l0_2 (ji21)).f0)
             ·rw [if_pos c26] at H
              have c26b0 : decide (((rd_T64 l0_2 x3_2).f0) < ((rd_T64 l0_2 (ji21)).f0)) = true := decide_eq_true c26
              clear c26
              (first | rw [c26b0] | (simp only [i64_w, i32_w]; rw [c26b0]) | skip)
              obtain rfl := Option.some.inj H
              go_wp2
              go_ret
              exact ⟨by first | rfl | (simp [errW_none, errW_some] <;> rfl) | (simp only [← hji21]; first | rfl | (simp [errW_none, errW_some] <;> rfl)) | (simp [*, errW_none, errW_some] <;> rfl), by repeat (first | (with_reducible first | exact HB.out | apply below_alloc | apply pw_below_drewN | apply below_drew1 | refine below_set ?_ GE137.out) | exact HB.out)⟩
             ·rw [if_neg c26] at H
              have c26b0 : decide (((rd_T64 l0_2 x3_2).f0) < ((rd_T64 l0_2 (ji21)).f0)) = false := decide_eq_false c26
              clear c26
              (first | rw [c26b0] | (simp only [i64_w, i32_w]; rw [c26b0]) | skip)
              have H' := Aside0.mk H
              clear H
              go_wp2
              go_roundg k2
              case measure => have := HJ1.out; have := HK2.out; omega
              case rel => exact ⟨(wrap64 (x3_2 + 1)), (by first | rfl | (simp; done) | (simp [*]; done)), H', ⟨by have := HJ1.out; have := HK2.out; omega⟩, ⟨by (with_reducible repeat (first | refine blk_drewN ?_ _ | refine blk_drew ?_ | refine blk_alloc ?_ _)); exact BK137.out⟩, ⟨by repeat (first | (with_reducible first | exact HB.out | apply below_alloc | apply pw_below_drewN | apply below_drew1 | refine below_set ?_ GE137.out) | exact HB.out)⟩⟩
            ·rw [if_neg c23] at H
             exact absurd H (by simp)
           ·rw [if_neg c22] at H
            exact absurd H (by simp)
          ·rw [if_neg c20] at H
           have c20b0 : decide (0 < x3_2) = false := decide_eq_false c20
           clear c20
           have H' := Aside0.mk H
           clear H
           try go_wp2
           have n0_ := Aside0.mk (blk_drew BK137.out)
           have n1_ := Aside0.mk (below_drew1 HB.out)
           clear BK137
           clear HB
           have BK137 := n0_
           have HB := n1_
           clear n0_ n1_
           have p140 : 0 ≤ (x3_2 : Int) := of_decide_eq_true (by first | (with_reducible assumption) | assumption)
           have q140 : x3_2 < (l0_2.length : Int) := of_decide_eq_true (by first | (with_reducible assumption) | assumption)
           obtain ⟨ad140, e140, hx140_0, hx140_1, hx140_2, hx140_3, hx140_4, hx140_5⟩ := at_T64 HR0_2.out x3_2 p140 q140
           have hw140_5 := hx140_5
           have hw140_4 := hx140_4
           have hw140_3 := hx140_3
           have hw140_2 := hx140_2
           have hw140_1 := hx140_1
           have hw140_0 := hx140_0
           cases e140
           replace hx140_0 := (HB.out.cell (World.block_lt_of_cell? w _ hx140_0)).trans hx140_0
           replace hx140_1 := (HB.out.cell (World.block_lt_of_cell? w _ hx140_1)).trans hx140_1
           replace hx140_2 := (HB.out.cell (World.block_lt_of_cell? w _ hx140_2)).trans hx140_2
           replace hx140_3 := (HB.out.cell (World.block_lt_of_cell? w _ hx140_3)).trans hx140_3
           replace hx140_4 := (HB.out.cell (World.block_lt_of_cell? w _ hx140_4)).trans hx140_4
           replace hx140_5 := (HB.out.cell (World.block_lt_of_cell? w _ hx140_5)).trans hx140_5
           replace p140 := eq_true p140
           replace q140 := eq_true q140
           have p142 : 0 ≤ (x3_2 : Int) := of_decide_eq_true (by first | (with_reducible assumption) | assumption)
           have q142 : x3_2 < (l0_2.length : Int) := of_decide_eq_true (by first | (with_reducible assumption) | assumption)
           obtain ⟨ad142, e142, hx142_0, hx142_1, hx142_2, hx142_3, hx142_4, hx142_5⟩ := at_T64 HR0_2.out x3_2 p142 q142
           have hw142_5 := hx142_5
           have hw142_4 := hx142_4
           have hw142_3 := hx142_3
           have hw142_2 := hx142_2
           have hw142_1 := hx142_1
           have hw142_0 := hx142_0
           obtain rfl : ad140 = ad142 := (by injection e142)
           replace hx142_0 := (HB.out.cell (World.block_lt_of_cell? w _ hx142_0)).trans hx142_0
           replace hx142_1 := (HB.out.cell (World.block_lt_of_cell? w _ hx142_1)).trans hx142_1
           replace hx142_2 := (HB.out.cell (World.block_lt_of_cell? w _ hx142_2)).trans hx142_2
           replace hx142_3 := (HB.out.cell (World.block_lt_of_cell? w _ hx142_3)).trans hx142_3
           replace hx142_4 := (HB.out.cell (World.block_lt_of_cell? w _ hx142_4)).trans hx142_4
           replace hx142_5 := (HB.out.cell (World.block_lt_of_cell? w _ hx142_5)).trans hx142_5
           replace p142 := eq_true p142
           replace q142 := eq_true q142
           refine start_ (n := 38) (S := fun w' => w'.cell? ⟨gb137, 0, none⟩ = some (.int .i64 a0_0) ∧ w'.cell? ⟨gb137, 1, none⟩ = some (.int .i64 a0_1) ∧ w'.cell? ⟨gb137, 2, none⟩ = some (.slice (some ad140) l0_2.length c0_2) ∧ w'.cell? (ad140.add ((x3_2).toNat * 6)) = some (.int .i64 ((rd_T64 l0_2 x3_2).f0)) ∧ w'.cell? ⟨(ad140.add ((x3_2).toNat * 6)).block, (ad140.add ((x3_2).toNat * 6)).off + 1, none⟩ = some (.int .i64 ((rd_T64 l0_2 x3_2).f1.f0)) ∧ w'.cell? ⟨(ad140.add ((x3_2).toNat * 6)).block, (ad140.add ((x3_2).toNat * 6)).off + 2, none⟩ = some (.int .i64 ((rd_T64 l0_2 x3_2).f1.f1)) ∧ w'.cell? ⟨(ad140.add ((x3_2).toNat * 6)).block, (ad140.add ((x3_2).toNat * 6)).off + 3, none⟩ = some (.int .i64 ((rd_T64 l0_2 x3_2).f1.f2)) ∧ w'.cell? ⟨(ad140.add ((x3_2).toNat * 6)).block, (ad140.add ((x3_2).toNat * 6)).off + 4, none⟩ = some (.int .i64 ((rd_T64 l0_2 x3_2).f1.f3)) ∧ w'.cell? ⟨(ad140.add ((x3_2).toNat * 6)).block, (ad140.add ((x3_2).toNat * 6)).off + 5, none⟩ = some (.string ((rd_T64 l0_2 x3_2).f1.f4)) ∧ w'.cell? (ad140.add ((x3_2).toNat * 6)) = some (.int .i64 ((rd_T64 l0_2 x3_2).f0)) ∧ w'.cell? ⟨(ad140.add ((x3_2).toNat * 6)).block, (ad140.add ((x3_2).toNat * 6)).off + 1, none⟩ = some (.int .i64 ((rd_T64 l0_2 x3_2).f1.f0)) ∧ w'.cell? ⟨(ad140.add ((x3_2).toNat * 6)).block, (ad140.add ((x3_2).toNat * 6)).off + 2, none⟩ = some (.int .i64 ((rd_T64 l0_2 x3_2).f1.f1)) ∧ w'.cell? ⟨(ad140.add ((x3_2).toNat * 6)).block, (ad140.add ((x3_2).toNat * 6)).off + 3, none⟩ = some (.int .i64 ((rd_T64 l0_2 x3_2).f1.f2)) ∧ w'.cell? ⟨(ad140.add ((x3_2).toNat * 6)).block, (ad140.add ((x3_2).toNat * 6)).off + 4, none⟩ = some (.int .i64 ((rd_T64 l0_2 x3_2).f1.f3)) ∧ w'.cell? ⟨(ad140.add ((x3_2).toNat * 6)).block, (ad140.add ((x3_2).toNat * 6)).off + 5, none⟩ = some (.string ((rd_T64 l0_2 x3_2).f1.f4))) (ds := []) m5_0 (by kernel_rfl) rfl rfl ⟨(blk_cell BK137.out 0).trans rfl, (blk_cell BK137.out 1).trans rfl, (blk_cell BK137.out 2).trans rfl, ((HB.out.cell (World.block_lt_of_cell? w _ hw140_0)).trans hw140_0), ((HB.out.cell (World.block_lt_of_cell? w _ hw140_1)).trans hw140_1), ((HB.out.cell (World.block_lt_of_cell? w _ hw140_2)).trans hw140_2), ((HB.out.cell (World.block_lt_of_cell? w _ hw140_3)).trans hw140_3), ((HB.out.cell (World.block_lt_of_cell? w _ hw140_4)).trans hw140_4), ((HB.out.cell (World.block_lt_of_cell? w _ hw140_5)).trans hw140_5), ((HB.out.cell (World.block_lt_of_cell? w _ hw142_0)).trans hw142_0), ((HB.out.cell (World.block_lt_of_cell? w _ hw142_1)).trans hw142_1), ((HB.out.cell (World.block_lt_of_cell? w _ hw142_2)).trans hw142_2), ((HB.out.cell (World.block_lt_of_cell? w _ hw142_3)).trans hw142_3), ((HB.out.cell (World.block_lt_of_cell? w _ hw142_4)).trans hw142_4), ((HB.out.cell (World.block_lt_of_cell? w _ hw142_5)).trans hw142_5)⟩ (fun hHeld => ?_); refine with_tabW spec_HardOk.tab6 spec_HardOk.bits6 (fun HT_ HW_ => ?_)
           generalize wr.drew = w27 at BK137 HB hx140_0 hx140_1 hx140_2 hx140_3 hx140_4 hx140_5 hx142_0 hx142_1 hx142_2 hx142_3 hx142_4 hx142_5 hHeld ⊢
           refine p5_ 0 (some 27) m5_1 (any_of HT_.out (by kernel_rfl)) ?_
           refine p5_ 2 (some 29) m5_2 (any_of HT_.out (by kernel_rfl)) ?_
           refine take_ (i := 1) (N := some 28) (v := ?_) (a' := ?_) m5_3 rfl rfl (take_ofW HT_.out HW_.out (by kernel_rfl)) (fun _ _ _ h => h) (Or.inl ⟨by rfl, ?_⟩) hHeld ?_ ?_
           rotate_left
           ·rintro w' ⟨s0, s1, s2, s3, s4, s5, s6, s7, s8, s9, s10, s11, s12, s13, s14⟩
            go_simp
            with_reducible rfl
           rotate_left
           ·simp only [Act.put, List.setIfInBounds_toArray, List.set_cons_zero, List.set_cons_succ, i64_w, i32_w]
            rfl
           refine p5_ 3 (some 30) m5_4 (any_of HT_.out (by kernel_rfl)) ?_
           refine take_ (i := 4) (N := some 31) (v := ?_) (a' := ?_) m5_5 rfl rfl (take_ofW HT_.out HW_.out (by kernel_rfl)) (fun _ _ _ h => h) (Or.inl ⟨by rfl, ?_⟩) hHeld ?_ ?_
           rotate_left
           ·rintro w' ⟨s0, s1, s2, s3, s4, s5, s6, s7, s8, s9, s10, s11, s12, s13, s14⟩
            go_simp
            with_reducible rfl
           rotate_left
           ·simp only [Act.put, List.setIfInBounds_toArray, List.set_cons_zero, List.set_cons_succ, i64_w, i32_w]
            rfl
           refine one_ (i := 5) (N := some 32) m5_6 rfl rfl (one_of HT_.out (by kernel_rfl)) (by decide) (fun K hK => ?_)
           refine goes_ Try.func43 (by kernel_rfl) rfl #[.agg #[.int .i64 ((rd_T64 l0_2 x3_2).f0), .int .i64 ((rd_T64 l0_2 x3_2).f1.f0), .int .i64 ((rd_T64 l0_2 x3_2).f1.f1), .int .i64 ((rd_T64 l0_2 x3_2).f1.f2), .int .i64 ((rd_T64 l0_2 x3_2).f1.f3), .string ((rd_T64 l0_2 x3_2).f1.f4)]] (by rfl) rfl rfl (by (try simp only [List.map_toArray, List.map_cons, List.map_nil]); first | done | rfl | (simp only [List.length_drop, List.length_take]; rfl)) ?_
           with_reducible refine (spec_l6Entry.calls k2 ((rd_T64 l0_2 x3_2).f0) ((rd_T64 l0_2 x3_2).f1.f0) ((rd_T64 l0_2 x3_2).f1.f1) ((rd_T64 l0_2 x3_2).f1.f2) ((rd_T64 l0_2 x3_2).f1.f3) ((rd_T64 l0_2 x3_2).f1.f4) true _ A15.out).mono ?_
           rintro e w28 ⟨rfl, hb⟩
           refine ⟨_, rfl, ?_⟩
           have n0_ := Aside0.mk (blk_below (g := gb137) (o := .cells #[.int .i64 a0_0, .int .i64 a0_1, .slice (some ad140) l0_2.length c0_2] 32 (0, 0)) (by (with_reducible repeat (first | refine blk_drewN ?_ _ | refine blk_drew ?_ | refine blk_alloc ?_ _)); exact BK137.out) hb)
           have n1_ := Aside0.mk (below_step (by repeat (first | (with_reducible first | exact HB.out | apply below_alloc | apply pw_below_drewN | apply below_drew1 | refine below_set ?_ GE137.out) | exact HB.out)) hb)
           clear BK137
           clear HB
           have BK137 := n0_
           have HB := n1_
           clear n0_ n1_
           (try clear hb)
           (try clear hb2)
           (try clear hk)
           (try clear hi)
           refine hK.out _ _ ⟨(blk_cell BK137.out 0).trans rfl, (blk_cell BK137.out 1).trans rfl, (blk_cell BK137.out 2).trans rfl, ((HB.out.cell (World.block_lt_of_cell? w _ hw140_0)).trans hw140_0), ((HB.out.cell (World.block_lt_of_cell? w _ hw140_1)).trans hw140_1), ((HB.out.cell (World.block_lt_of_cell? w _ hw140_2)).trans hw140_2), ((HB.out.cell (World.block_lt_of_cell? w _ hw140_3)).trans hw140_3), ((HB.out.cell (World.block_lt_of_cell? w _ hw140_4)).trans hw140_4), ((HB.out.cell (World.block_lt_of_cell? w _ hw140_5)).trans hw140_5), ((HB.out.cell (World.block_lt_of_cell? w _ hw142_0)).trans hw142_0), ((HB.out.cell (World.block_lt_of_cell? w _ hw142_1)).trans hw142_1), ((HB.out.cell (World.block_lt_of_cell? w _ hw142_2)).trans hw142_2), ((HB.out.cell (World.block_lt_of_cell? w _ hw142_3)).trans hw142_3), ((HB.out.cell (World.block_lt_of_cell? w _ hw142_4)).trans hw142_4), ((HB.out.cell (World.block_lt_of_cell? w _ hw142_5)).trans hw142_5)⟩ (fun hHeld => ?_)
           clear hK K
           refine norm_ (a' := ?_) ?_ ?_
           rotate_left
           ·show Act.put _ (some 32) _ = _
            simp only [Act.put, List.setIfInBounds_toArray, List.set_cons_zero, List.set_cons_succ, i64_w, i32_w]
            rfl
           refine p5_ 6 (some 33) m5_7 (any_of HT_.out (by kernel_rfl)) ?_
           refine p5_ 7 (some 34) m5_8 (any_of HT_.out (by kernel_rfl)) ?_
           refine p5_ 8 (some 35) m5_9 (any_of HT_.out (by kernel_rfl)) ?_
           refine p5_ 10 (some 37) m5_26 (any_of HT_.out (by kernel_rfl)) ?_
           refine p5_ 14 (some 41) m5_27 (any_of HT_.out (by kernel_rfl)) ?_
           refine take_ (i := 9) (N := some 36) (v := ?_) (a' := ?_) m5_28 rfl rfl (take_ofW HT_.out HW_.out (by kernel_rfl)) (fun _ _ _ h => h) (Or.inl ⟨by rfl, ?_⟩) hHeld ?_ ?_
           rotate_left
           ·rintro w' ⟨s0, s1, s2, s3, s4, s5, s6, s7, s8, s9, s10, s11, s12, s13, s14⟩
            go_simp
            with_reducible rfl
           rotate_left
           ·simp only [Act.put, List.setIfInBounds_toArray, List.set_cons_zero, List.set_cons_succ, i64_w, i32_w]
            rfl
           refine p5_ 11 (some 38) m5_29 (any_of HT_.out (by kernel_rfl)) ?_
           refine p5_ 12 (some 39) m5_30 (any_of HT_.out (by kernel_rfl)) ?_
           refine take_ (i := 13) (N := some 40) (v := ?_) (a' := ?_) m5_10 rfl rfl (take_ofW HT_.out HW_.out (by kernel_rfl)) (fun _ _ _ h => h) (Or.inl ⟨by rfl, ?_⟩) hHeld ?_ ?_
           rotate_left
           ·rintro w' ⟨s0, s1, s2, s3, s4, s5, s6, s7, s8, s9, s10, s11, s12, s13, s14⟩
            go_simp
            with_reducible rfl
           rotate_left
           ·simp only [Act.put, List.setIfInBounds_toArray, List.set_cons_zero, List.set_cons_succ, i64_w, i32_w]
            rfl
           refine take_ (i := 15) (N := some 42) (v := ?_) (a' := ?_) m5_11 rfl rfl (take_ofW HT_.out HW_.out (by kernel_rfl)) (fun _ _ _ h => h) (Or.inl ⟨by rfl, ?_⟩) hHeld ?_ ?_
           rotate_left
           ·rintro w' ⟨s0, s1, s2, s3, s4, s5, s6, s7, s8, s9, s10, s11, s12, s13, s14⟩
            go_simp
            with_reducible rfl
           rotate_left
           ·simp only [Act.put, List.setIfInBounds_toArray, List.set_cons_zero, List.set_cons_succ, i64_w, i32_w]
            rfl
           refine p5_ 16 (some 43) m5_12 (any_of HT_.out (by kernel_rfl)) ?_
           refine p5_ 17 (some 44) m5_13 (any_of HT_.out (by kernel_rfl)) ?_
           refine p5_ 18 (some 45) m5_14 (any_of HT_.out (by kernel_rfl)) ?_
           refine p5_ 19 (some 46) m5_15 (any_of HT_.out (by kernel_rfl)) ?_
           refine p5_ 20 (some 47) m5_16 (any_of HT_.out (by kernel_rfl)) ?_
           refine p5_ 21 (some 48) m5_17 (any_of HT_.out (by kernel_rfl)) ?_
           refine u5_ 22 (some 49) m5_18 (any_of HT_.out (by kernel_rfl)) ?_
           refine u5_ 23 (some 50) m5_31 (any_of HT_.out (by kernel_rfl)) ?_
           refine u5_ 24 (some 51) m5_32 (any_of HT_.out (by kernel_rfl)) ?_
           refine u5_ 25 (some 52) m5_33 (any_of HT_.out (by kernel_rfl)) ?_
           refine u5_ 26 (some 53) m5_34 (any_of HT_.out (by kernel_rfl)) ?_
           refine u5_ 27 (some 54) m5_35 (any_of HT_.out (by kernel_rfl)) ?_
           refine u5_ 28 (some 55) m5_36 (any_of HT_.out (by kernel_rfl)) ?_
           refine u5_ 29 (some 56) m5_37 (any_of HT_.out (by kernel_rfl)) ?_
           refine u5_ 30 (some 57) m5_38 (any_of HT_.out (by kernel_rfl)) ?_
           refine u5_ 31 (some 58) m5_19 (any_of HT_.out (by kernel_rfl)) ?_
           refine u5_ 32 (some 59) m5_20 (any_of HT_.out (by kernel_rfl)) ?_
           refine u5_ 33 (some 60) m5_21 (any_of HT_.out (by kernel_rfl)) ?_
           refine u5_ 34 (some 61) m5_22 (any_of HT_.out (by kernel_rfl)) ?_
           refine u5_ 35 (some 62) m5_23 (any_of HT_.out (by kernel_rfl)) ?_
           refine p5_ 36 (some 63) m5_24 (any_of HT_.out (by kernel_rfl)) ?_
           refine p5_ 37 (some 64) m5_25 (any_of HT_.out (by kernel_rfl)) ?_
           refine done_ (done_of HT_.out (by kernel_rfl)) ?_
           try go_wp2
           go_roundg k2
           case measure => have := HJ1.out; have := HK2.out; omega
           case rel => exact ⟨(wrap64 (x3_2 + 1)), (by first | rfl | (simp; done) | (simp [*]; done)), H', ⟨by have := HJ1.out; have := HK2.out; omega⟩, ⟨by (with_reducible repeat (first | refine blk_drewN ?_ _ | refine blk_drew ?_ | refine blk_alloc ?_ _)); exact BK137.out⟩, ⟨by repeat (first | (with_reducible first | exact HB.out | apply below_alloc | apply pw_below_drewN | apply below_drew1 | refine below_set ?_ GE137.out) | exact HB.out)⟩⟩
        ·replace c16 := Bool.eq_false_iff.mpr c16
         subst c16
         have H1 : (some false) = some r := by rw [if_neg (show ¬ (false = true) by decide)] at H; exact H
         clear H
         have H := H1
         clear H1
         obtain rfl := Option.some.inj H
         try go_wp2
         have n0_ := Aside0.mk (blk_drew BK137.out)
         have n1_ := Aside0.mk (below_drew1 HB.out)
         clear BK137
         clear HB
         have BK137 := n0_
         have HB := n1_
         clear n0_ n1_
         have p140 : 0 ≤ (x3_2 : Int) := of_decide_eq_true (by first | (with_reducible assumption) | assumption)
         have q140 : x3_2 < (l0_2.length : Int) := of_decide_eq_true (by first | (with_reducible assumption) | assumption)
         obtain ⟨ad140, e140, hx140_0, hx140_1, hx140_2, hx140_3, hx140_4, hx140_5⟩ := at_T64 HR0_2.out x3_2 p140 q140
         have hw140_5 := hx140_5
         have hw140_4 := hx140_4
         have hw140_3 := hx140_3
         have hw140_2 := hx140_2
         have hw140_1 := hx140_1
         have hw140_0 := hx140_0
         cases e140
         replace hx140_0 := (HB.out.cell (World.block_lt_of_cell? w _ hx140_0)).trans hx140_0
         replace hx140_1 := (HB.out.cell (World.block_lt_of_cell? w _ hx140_1)).trans hx140_1
         replace hx140_2 := (HB.out.cell (World.block_lt_of_cell? w _ hx140_2)).trans hx140_2
         replace hx140_3 := (HB.out.cell (World.block_lt_of_cell? w _ hx140_3)).trans hx140_3
         replace hx140_4 := (HB.out.cell (World.block_lt_of_cell? w _ hx140_4)).trans hx140_4
         replace hx140_5 := (HB.out.cell (World.block_lt_of_cell? w _ hx140_5)).trans hx140_5
         replace p140 := eq_true p140
         replace q140 := eq_true q140
         refine start_ (n := 38) (S := fun w' => w'.cell? ⟨gb137, 0, none⟩ = some (.int .i64 a0_0) ∧ w'.cell? ⟨gb137, 1, none⟩ = some (.int .i64 a0_1) ∧ w'.cell? ⟨gb137, 2, none⟩ = some (.slice (some ad140) l0_2.length c0_2) ∧ w'.cell? (ad140.add ((x3_2).toNat * 6)) = some (.int .i64 ((rd_T64 l0_2 x3_2).f0)) ∧ w'.cell? ⟨(ad140.add ((x3_2).toNat * 6)).block, (ad140.add ((x3_2).toNat * 6)).off + 1, none⟩ = some (.int .i64 ((rd_T64 l0_2 x3_2).f1.f0)) ∧ w'.cell? ⟨(ad140.add ((x3_2).toNat * 6)).block, (ad140.add ((x3_2).toNat * 6)).off + 2, none⟩ = some (.int .i64 ((rd_T64 l0_2 x3_2).f1.f1)) ∧ w'.cell? ⟨(ad140.add ((x3_2).toNat * 6)).block, (ad140.add ((x3_2).toNat * 6)).off + 3, none⟩ = some (.int .i64 ((rd_T64 l0_2 x3_2).f1.f2)) ∧ w'.cell? ⟨(ad140.add ((x3_2).toNat * 6)).block, (ad140.add ((x3_2).toNat * 6)).off + 4, none⟩ = some (.int .i64 ((rd_T64 l0_2 x3_2).f1.f3)) ∧ w'.cell? ⟨(ad140.add ((x3_2).toNat * 6)).block, (ad140.add ((x3_2).toNat * 6)).off + 5, none⟩ = some (.string ((rd_T64 l0_2 x3_2).f1.f4))) (ds := []) m5_0 (by kernel_rfl) rfl rfl ⟨(blk_cell BK137.out 0).trans rfl, (blk_cell BK137.out 1).trans rfl, (blk_cell BK137.out 2).trans rfl, ((HB.out.cell (World.block_lt_of_cell? w _ hw140_0)).trans hw140_0), ((HB.out.cell (World.block_lt_of_cell? w _ hw140_1)).trans hw140_1), ((HB.out.cell (World.block_lt_of_cell? w _ hw140_2)).trans hw140_2), ((HB.out.cell (World.block_lt_of_cell? w _ hw140_3)).trans hw140_3), ((HB.out.cell (World.block_lt_of_cell? w _ hw140_4)).trans hw140_4), ((HB.out.cell (World.block_lt_of_cell? w _ hw140_5)).trans hw140_5)⟩ (fun hHeld => ?_); refine with_tabW spec_HardOk.tab6 spec_HardOk.bits6 (fun HT_ HW_ => ?_)
         generalize wr.drew = w29 at BK137 HB hx140_0 hx140_1 hx140_2 hx140_3 hx140_4 hx140_5 hHeld ⊢
         refine p5_ 0 (some 27) m5_1 (any_of HT_.out (by kernel_rfl)) ?_
         refine p5_ 2 (some 29) m5_2 (any_of HT_.out (by kernel_rfl)) ?_
         refine take_ (i := 1) (N := some 28) (v := ?_) (a' := ?_) m5_3 rfl rfl (take_ofW HT_.out HW_.out (by kernel_rfl)) (fun _ _ _ h => h) (Or.inl ⟨by rfl, ?_⟩) hHeld ?_ ?_
         rotate_left
         ·rintro w' ⟨s0, s1, s2, s3, s4, s5, s6, s7, s8⟩
          go_simp
          with_reducible rfl
         rotate_left
         ·simp only [Act.put, List.setIfInBounds_toArray, List.set_cons_zero, List.set_cons_succ, i64_w, i32_w]
          rfl
         refine p5_ 3 (some 30) m5_4 (any_of HT_.out (by kernel_rfl)) ?_
         refine take_ (i := 4) (N := some 31) (v := ?_) (a' := ?_) m5_5 rfl rfl (take_ofW HT_.out HW_.out (by kernel_rfl)) (fun _ _ _ h => h) (Or.inl ⟨by rfl, ?_⟩) hHeld ?_ ?_
         rotate_left
         ·rintro w' ⟨s0, s1, s2, s3, s4, s5, s6, s7, s8⟩
          go_simp
          with_reducible rfl
         rotate_left
         ·simp only [Act.put, List.setIfInBounds_toArray, List.set_cons_zero, List.set_cons_succ, i64_w, i32_w]
          rfl
         refine one_ (i := 5) (N := some 32) m5_6 rfl rfl (one_of HT_.out (by kernel_rfl)) (by decide) (fun K hK => ?_)
         refine goes_ Try.func43 (by kernel_rfl) rfl #[.agg #[.int .i64 ((rd_T64 l0_2 x3_2).f0), .int .i64 ((rd_T64 l0_2 x3_2).f1.f0), .int .i64 ((rd_T64 l0_2 x3_2).f1.f1), .int .i64 ((rd_T64 l0_2 x3_2).f1.f2), .int .i64 ((rd_T64 l0_2 x3_2).f1.f3), .string ((rd_T64 l0_2 x3_2).f1.f4)]] (by rfl) rfl rfl (by (try simp only [List.map_toArray, List.map_cons, List.map_nil]); first | done | rfl | (simp only [List.length_drop, List.length_take]; rfl)) ?_
         with_reducible refine (spec_l6Entry.calls k2 ((rd_T64 l0_2 x3_2).f0) ((rd_T64 l0_2 x3_2).f1.f0) ((rd_T64 l0_2 x3_2).f1.f1) ((rd_T64 l0_2 x3_2).f1.f2) ((rd_T64 l0_2 x3_2).f1.f3) ((rd_T64 l0_2 x3_2).f1.f4) false _ A15.out).mono ?_
         rintro e w30 ⟨rfl, hb⟩
         refine ⟨_, rfl, ?_⟩
         have n0_ := Aside0.mk (blk_below (g := gb137) (o := .cells #[.int .i64 a0_0, .int .i64 a0_1, .slice (some ad140) l0_2.length c0_2] 32 (0, 0)) (by (with_reducible repeat (first | refine blk_drewN ?_ _ | refine blk_drew ?_ | refine blk_alloc ?_ _)); exact BK137.out) hb)
         have n1_ := Aside0.mk (below_step (by repeat (first | (with_reducible first | exact HB.out | apply below_alloc | apply pw_below_drewN | apply below_drew1 | refine below_set ?_ GE137.out) | exact HB.out)) hb)
         clear BK137
         clear HB
         have BK137 := n0_
         have HB := n1_
         clear n0_ n1_
         (try clear hb)
         (try clear hb2)
         (try clear hk)
         (try clear hi)
         refine hK.out _ _ ⟨(blk_cell BK137.out 0).trans rfl, (blk_cell BK137.out 1).trans rfl, (blk_cell BK137.out 2).trans rfl, ((HB.out.cell (World.block_lt_of_cell? w _ hw140_0)).trans hw140_0), ((HB.out.cell (World.block_lt_of_cell? w _ hw140_1)).trans hw140_1), ((HB.out.cell (World.block_lt_of_cell? w _ hw140_2)).trans hw140_2), ((HB.out.cell (World.block_lt_of_cell? w _ hw140_3)).trans hw140_3), ((HB.out.cell (World.block_lt_of_cell? w _ hw140_4)).trans hw140_4), ((HB.out.cell (World.block_lt_of_cell? w _ hw140_5)).trans hw140_5)⟩ (fun hHeld => ?_)
         clear hK K
         refine norm_ (a' := ?_) ?_ ?_
         rotate_left
         ·show Act.put _ (some 32) _ = _
          simp only [Act.put, List.setIfInBounds_toArray, List.set_cons_zero, List.set_cons_succ, i64_w, i32_w]
          rfl
         refine p5_ 6 (some 33) m5_7 (any_of HT_.out (by kernel_rfl)) ?_
         refine p5_ 7 (some 34) m5_8 (any_of HT_.out (by kernel_rfl)) ?_
         refine u5_ 8 (some 35) m5_9 (any_of HT_.out (by kernel_rfl)) ?_
         refine u5_ 9 (some 36) #[true, true, true, true, true, true, true, true, true, true, false, false, false, false, false, false, false, false, false, false, false, false, false, false, false, false, false, false, false, false, false, false, false, false, false, false, false, false] (any_of HT_.out (by kernel_rfl)) ?_
         refine u5_ 10 (some 37) #[true, true, true, true, true, true, true, true, true, true, true, false, false, false, false, false, false, false, false, false, false, false, false, false, false, false, false, false, false, false, false, false, false, false, false, false, false, false] (any_of HT_.out (by kernel_rfl)) ?_
         refine u5_ 11 (some 38) #[true, true, true, true, true, true, true, true, true, true, true, true, false, false, false, false, false, false, false, false, false, false, false, false, false, false, false, false, false, false, false, false, false, false, false, false, false, false] (any_of HT_.out (by kernel_rfl)) ?_
         refine u5_ 12 (some 39) #[true, true, true, true, true, true, true, true, true, true, true, true, true, false, false, false, false, false, false, false, false, false, false, false, false, false, false, false, false, false, false, false, false, false, false, false, false, false] (any_of HT_.out (by kernel_rfl)) ?_
         refine u5_ 13 (some 40) #[true, true, true, true, true, true, true, true, true, true, true, true, true, true, false, false, false, false, false, false, false, false, false, false, false, false, false, false, false, false, false, false, false, false, false, false, false, false] (any_of HT_.out (by kernel_rfl)) ?_
         refine u5_ 14 (some 41) m5_10 (any_of HT_.out (by kernel_rfl)) ?_
         refine u5_ 15 (some 42) m5_11 (any_of HT_.out (by kernel_rfl)) ?_
         refine u5_ 16 (some 43) m5_12 (any_of HT_.out (by kernel_rfl)) ?_
         refine p5_ 17 (some 44) m5_13 (any_of HT_.out (by kernel_rfl)) ?_
         refine p5_ 18 (some 45) m5_14 (any_of HT_.out (by kernel_rfl)) ?_
         refine u5_ 19 (some 46) m5_15 (any_of HT_.out (by kernel_rfl)) ?_
         refine u5_ 20 (some 47) m5_16 (any_of HT_.out (by kernel_rfl)) ?_
         refine u5_ 21 (some 48) m5_17 (any_of HT_.out (by kernel_rfl)) ?_
         refine u5_ 22 (some 49) m5_18 (any_of HT_.out (by kernel_rfl)) ?_
         refine u5_ 23 (some 50) m5_31 (any_of HT_.out (by kernel_rfl)) ?_
         refine u5_ 24 (some 51) m5_32 (any_of HT_.out (by kernel_rfl)) ?_
         refine u5_ 25 (some 52) m5_33 (any_of HT_.out (by kernel_rfl)) ?_
         refine u5_ 26 (some 53) m5_34 (any_of HT_.out (by kernel_rfl)) ?_
         refine u5_ 27 (some 54) m5_35 (any_of HT_.out (by kernel_rfl)) ?_
         refine u5_ 28 (some 55) m5_36 (any_of HT_.out (by kernel_rfl)) ?_
         refine u5_ 29 (some 56) m5_37 (any_of HT_.out (by kernel_rfl)) ?_
         refine u5_ 30 (some 57) m5_38 (any_of HT_.out (by kernel_rfl)) ?_
         refine u5_ 31 (some 58) m5_19 (any_of HT_.out (by kernel_rfl)) ?_
         refine u5_ 32 (some 59) m5_20 (any_of HT_.out (by kernel_rfl)) ?_
         refine u5_ 33 (some 60) m5_21 (any_of HT_.out (by kernel_rfl)) ?_
         refine u5_ 34 (some 61) m5_22 (any_of HT_.out (by kernel_rfl)) ?_
         refine u5_ 35 (some 62) m5_23 (any_of HT_.out (by kernel_rfl)) ?_
         refine u5_ 36 (some 63) m5_24 (any_of HT_.out (by kernel_rfl)) ?_
         refine p5_ 37 (some 64) m5_25 (any_of HT_.out (by kernel_rfl)) ?_
         refine done_ (done_of HT_.out (by kernel_rfl)) ?_
         try go_wp2
         go_ret
         exact ⟨by first | rfl | (simp [errW_none, errW_some] <;> rfl) | (simp [*, errW_none, errW_some] <;> rfl), by repeat (first | (with_reducible first | exact HB.out | apply below_alloc | apply pw_below_drewN | apply below_drew1 | refine below_set ?_ GE137.out) | exact HB.out)⟩
       ·rw [if_neg c14] at H
        exact absurd H (by simp)
      ·rw [if_neg c13] at H
       have c13b0 : decide (x3_2 < (l0_2.length : Int)) = false := decide_eq_false c13
       clear c13
       (first | rw [c13b0] | (simp only [i64_w, i32_w]; rw [c13b0]) | skip)
       obtain rfl := Option.some.inj H
       go_wp2
       go_ret
       exact ⟨by first | rfl | (simp [errW_none, errW_some] <;> rfl) | (simp [*, errW_none, errW_some] <;> rfl), by repeat (first | (with_reducible first | exact HB.out | apply below_alloc | apply pw_below_drewN | apply below_drew1 | refine below_set ?_ GE137.out) | exact HB.out)⟩

end Go.Proofs.Ytahhigniaepgeaa.QFnExactRaftNew
