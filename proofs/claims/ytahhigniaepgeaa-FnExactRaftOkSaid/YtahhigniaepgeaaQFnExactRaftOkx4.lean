-- Written by a program of this session (wip/xprint.py), which turns a copy of the kit's print: its own text, no printed one.
import Derived.Test.YtahhigniaepgeaaQFnExactRaftOkx0
import Derived.Test.YtahhigniaepgeaaQFnExactRaftOkx2
import Derived.Test.YtahhigniaepgeaaQFnExactRaftOkx3
namespace Go.Proofs.Ytahhigniaepgeaa.QFnExactRaftOk
open Go.RowKit Go.Proofs.YtahhigniaepgeaaW.PrintWords Go.Proofs.YtahhigniaepgeaaW.PrintLast Go.Proofs.YtahhigniaepgeaaW.PrintMore
attribute [local go_sem] max2_int min2_int max_two min_two max_three min_three max_four min_four   -- for this text's walks alone
set_option linter.unusedVariables false
set_option linter.unusedSimpArgs false

abbrev m4_0 : Array Bool := #[false, false, false, false, false, false, false, false, false, false, false, false, false, false, false, false, false, false, false, false, false, false, false, false, false, false, false, false, false, false, false, false, false, false, false, false, false, false]
abbrev m4_1 : Array Bool := #[true, false, false, false, false, false, false, false, false, false, false, false, false, false, false, false, false, false, false, false, false, false, false, false, false, false, false, false, false, false, false, false, false, false, false, false, false, false]
abbrev m4_2 : Array Bool := #[true, false, true, false, false, false, false, false, false, false, false, false, false, false, false, false, false, false, false, false, false, false, false, false, false, false, false, false, false, false, false, false, false, false, false, false, false, false]
abbrev m4_3 : Array Bool := #[true, true, true, false, false, false, false, false, false, false, false, false, false, false, false, false, false, false, false, false, false, false, false, false, false, false, false, false, false, false, false, false, false, false, false, false, false, false]
abbrev m4_4 : Array Bool := #[true, true, true, true, false, false, false, false, false, false, false, false, false, false, false, false, false, false, false, false, false, false, false, false, false, false, false, false, false, false, false, false, false, false, false, false, false, false]
abbrev m4_5 : Array Bool := #[true, true, true, true, true, false, false, false, false, false, false, false, false, false, false, false, false, false, false, false, false, false, false, false, false, false, false, false, false, false, false, false, false, false, false, false, false, false]
abbrev m4_6 : Array Bool := #[true, true, true, true, true, true, false, false, false, false, false, false, false, false, false, false, false, false, false, false, false, false, false, false, false, false, false, false, false, false, false, false, false, false, false, false, false, false]
abbrev m4_7 : Array Bool := #[true, true, true, true, true, true, true, false, false, false, false, false, false, false, false, false, false, false, false, false, false, false, false, false, false, false, false, false, false, false, false, false, false, false, false, false, false, false]
abbrev m4_8 : Array Bool := #[true, true, true, true, true, true, true, true, false, false, false, false, false, false, false, false, false, false, false, false, false, false, false, false, false, false, false, false, false, false, false, false, false, false, false, false, false, false]
abbrev m4_9 : Array Bool := #[true, true, true, true, true, true, true, true, true, false, false, false, false, false, false, false, false, false, false, false, false, false, false, false, false, false, false, false, false, false, false, false, false, false, false, false, false, false]
abbrev m4_10 : Array Bool := #[true, true, true, true, true, true, true, true, true, true, true, true, true, true, true, false, false, false, false, false, false, false, false, false, false, false, false, false, false, false, false, false, false, false, false, false, false, false]
abbrev m4_11 : Array Bool := #[true, true, true, true, true, true, true, true, true, true, true, true, true, true, true, true, false, false, false, false, false, false, false, false, false, false, false, false, false, false, false, false, false, false, false, false, false, false]
abbrev m4_12 : Array Bool := #[true, true, true, true, true, true, true, true, true, true, true, true, true, true, true, true, true, false, false, false, false, false, false, false, false, false, false, false, false, false, false, false, false, false, false, false, false, false]
abbrev m4_13 : Array Bool := #[true, true, true, true, true, true, true, true, true, true, true, true, true, true, true, true, true, true, false, false, false, false, false, false, false, false, false, false, false, false, false, false, false, false, false, false, false, false]
abbrev m4_14 : Array Bool := #[true, true, true, true, true, true, true, true, true, true, true, true, true, true, true, true, true, true, true, false, false, false, false, false, false, false, false, false, false, false, false, false, false, false, false, false, false, false]
abbrev m4_15 : Array Bool := #[true, true, true, true, true, true, true, true, true, true, true, true, true, true, true, true, true, true, true, true, false, false, false, false, false, false, false, false, false, false, false, false, false, false, false, false, false, false]
abbrev m4_16 : Array Bool := #[true, true, true, true, true, true, true, true, true, true, true, true, true, true, true, true, true, true, true, true, true, false, false, false, false, false, false, false, false, false, false, false, false, false, false, false, false, false]
abbrev m4_17 : Array Bool := #[true, true, true, true, true, true, true, true, true, true, true, true, true, true, true, true, true, true, true, true, true, true, false, false, false, false, false, false, false, false, false, false, false, false, false, false, false, false]
abbrev m4_18 : Array Bool := #[true, true, true, true, true, true, true, true, true, true, true, true, true, true, true, true, true, true, true, true, true, true, true, false, false, false, false, false, false, false, false, false, false, false, false, false, false, false]
abbrev m4_19 : Array Bool := #[true, true, true, true, true, true, true, true, true, true, true, true, true, true, true, true, true, true, true, true, true, true, true, true, true, true, true, true, true, true, true, true, false, false, false, false, false, false]
abbrev m4_20 : Array Bool := #[true, true, true, true, true, true, true, true, true, true, true, true, true, true, true, true, true, true, true, true, true, true, true, true, true, true, true, true, true, true, true, true, true, false, false, false, false, false]
abbrev m4_21 : Array Bool := #[true, true, true, true, true, true, true, true, true, true, true, true, true, true, true, true, true, true, true, true, true, true, true, true, true, true, true, true, true, true, true, true, true, true, false, false, false, false]
abbrev m4_22 : Array Bool := #[true, true, true, true, true, true, true, true, true, true, true, true, true, true, true, true, true, true, true, true, true, true, true, true, true, true, true, true, true, true, true, true, true, true, true, false, false, false]
abbrev m4_23 : Array Bool := #[true, true, true, true, true, true, true, true, true, true, true, true, true, true, true, true, true, true, true, true, true, true, true, true, true, true, true, true, true, true, true, true, true, true, true, true, false, false]
abbrev m4_24 : Array Bool := #[true, true, true, true, true, true, true, true, true, true, true, true, true, true, true, true, true, true, true, true, true, true, true, true, true, true, true, true, true, true, true, true, true, true, true, true, true, false]
abbrev m4_25 : Array Bool := #[true, true, true, true, true, true, true, true, true, true, true, true, true, true, true, true, true, true, true, true, true, true, true, true, true, true, true, true, true, true, true, true, true, true, true, true, true, true]
abbrev m4_26 : Array Bool := #[true, true, true, true, true, true, true, true, true, false, true, false, false, false, false, false, false, false, false, false, false, false, false, false, false, false, false, false, false, false, false, false, false, false, false, false, false, false]
abbrev m4_27 : Array Bool := #[true, true, true, true, true, true, true, true, true, false, true, false, false, false, true, false, false, false, false, false, false, false, false, false, false, false, false, false, false, false, false, false, false, false, false, false, false, false]
abbrev m4_28 : Array Bool := #[true, true, true, true, true, true, true, true, true, true, true, false, false, false, true, false, false, false, false, false, false, false, false, false, false, false, false, false, false, false, false, false, false, false, false, false, false, false]
abbrev m4_29 : Array Bool := #[true, true, true, true, true, true, true, true, true, true, true, true, false, false, true, false, false, false, false, false, false, false, false, false, false, false, false, false, false, false, false, false, false, false, false, false, false, false]
abbrev m4_30 : Array Bool := #[true, true, true, true, true, true, true, true, true, true, true, true, true, false, true, false, false, false, false, false, false, false, false, false, false, false, false, false, false, false, false, false, false, false, false, false, false, false]
abbrev m4_31 : Array Bool := #[true, true, true, true, true, true, true, true, true, true, true, true, true, true, true, true, true, true, true, true, true, true, true, true, false, false, false, false, false, false, false, false, false, false, false, false, false, false]
abbrev m4_32 : Array Bool := #[true, true, true, true, true, true, true, true, true, true, true, true, true, true, true, true, true, true, true, true, true, true, true, true, true, false, false, false, false, false, false, false, false, false, false, false, false, false]
abbrev m4_33 : Array Bool := #[true, true, true, true, true, true, true, true, true, true, true, true, true, true, true, true, true, true, true, true, true, true, true, true, true, true, false, false, false, false, false, false, false, false, false, false, false, false]
abbrev m4_34 : Array Bool := #[true, true, true, true, true, true, true, true, true, true, true, true, true, true, true, true, true, true, true, true, true, true, true, true, true, true, true, false, false, false, false, false, false, false, false, false, false, false]
abbrev m4_35 : Array Bool := #[true, true, true, true, true, true, true, true, true, true, true, true, true, true, true, true, true, true, true, true, true, true, true, true, true, true, true, true, false, false, false, false, false, false, false, false, false, false]
abbrev m4_36 : Array Bool := #[true, true, true, true, true, true, true, true, true, true, true, true, true, true, true, true, true, true, true, true, true, true, true, true, true, true, true, true, true, false, false, false, false, false, false, false, false, false]
abbrev m4_37 : Array Bool := #[true, true, true, true, true, true, true, true, true, true, true, true, true, true, true, true, true, true, true, true, true, true, true, true, true, true, true, true, true, true, false, false, false, false, false, false, false, false]
abbrev m4_38 : Array Bool := #[true, true, true, true, true, true, true, true, true, true, true, true, true, true, true, true, true, true, true, true, true, true, true, true, true, true, true, true, true, true, true, false, false, false, false, false, false, false]
theorem p4_ {P : Program} {md : Region.Mode} {ops : Array Oper} {Q : Exit → Act → World → Prop} {S : World → Prop} {ds : List Nat} {oi : Oper} {v : Value} {fuel : Nat} {l : Array Bool} {a a' : Act} {w : World} (i : Nat) (N : Option Tmp) (l' : Array Bool) (hc : anyB md ops l l' i = true) (h : wpAnyLast P md ops Q S ds fuel l' a' w)
  (hi : ops[i]? = some oi := by exact rfl) (hN : oi.dst = N := by exact rfl) (hQ : ∀ c a w, Q (.panic c) (a.put oi.dst v) w → Q (.panic c) a w := by exact fun _ _ _ h => h)
  (hy : Yields P ops oi v a := by (refine Or.inl ⟨by rfl, ?_⟩; intro w'; go_simp; with_reducible rfl)) (ha : a.put N v = a' := by (simp only [Act.put, List.setIfInBounds_toArray, List.set_cons_zero, List.set_cons_succ, i64_w, i32_w]; rfl)) :
  wpAnyLast P md ops Q S ds (fuel + 1) l a w := pure_ l' hi hN hc hQ hy ha h
theorem u4_ {P : Program} {md : Region.Mode} {ops : Array Oper} {Q : Exit → Act → World → Prop} {S : World → Prop} {ds : List Nat} {oi : Oper} {fuel : Nat} {l : Array Bool} {a a' : Act} {w : World} (i : Nat) (N : Option Tmp) (l' : Array Bool) (hc : anyB md ops l l' i = true) (h : wpAnyLast P md ops Q S ds fuel l' a' w)
  (hi : ops[i]? = some oi := by exact rfl) (hN : oi.dst = N := by exact rfl) (hQ : ∀ c a w, Q (.panic c) (a.put oi.dst undef) w → Q (.panic c) a w := by exact fun _ _ _ h => h)
  (hy : Yields P ops oi undef a := by exact Or.inr ⟨by rfl, rfl⟩) (ha : a.put N undef = a' := by (simp only [Act.put, List.setIfInBounds_toArray, List.set_cons_zero, List.set_cons_succ, i64_w, i32_w]; rfl)) :
  wpAnyLast P md ops Q S ds (fuel + 1) l a w := pure_ l' hi hN hc hQ hy ha h

/-! ### spec_HardOk: function 21 -/
mutual
def spec_HardOk.j0 : Nat → Bool → Int → Int → List (S64) → Option (Bool)
 | 0, _, _, _, _ => none
 | k + 1, x19, x124000, x124001, x124002 => if x19 = true then (some false) else (spec_HardOk.l0 k 0 x124000 x124001 x124002)
def spec_HardOk.l0 : Nat → Int → Int → Int → List (S64) → Option (Bool)
 | 0, _, _, _, _ => none
 | k + 1, x3, x124000, x124001, x124002 => if x3 < (x124002.length : Int) then (if 0 ≤ x3 then ((spec_l6Entry.f k ((rd_T64 x124002 x3).f0) ((rd_T64 x124002 x3).f1.f0) ((rd_T64 x124002 x3).f1.f1) ((rd_T64 x124002 x3).f1.f2) ((rd_T64 x124002 x3).f1.f3) ((rd_T64 x124002 x3).f1.f4)).bind fun t127 => (if t127 = true then (if ((rd_T64 x124002 x3).f0) > x124000 then (some false) else (if x3 > 0 then (if 0 ≤ (wrap64 (x3 - 1)) then (if (wrap64 (x3 - 1)) < (x124002.length : Int) then (if ((rd_T64 x124002 x3).f0) < ((rd_T64 x124002 (wrap64 (x3 - 1))).f0) then (some false) else (spec_HardOk.l0 k (wrap64 (x3 + 1)) x124000 x124001 x124002)) else (none)) else (none)) else (spec_HardOk.l0 k (wrap64 (x3 + 1)) x124000 x124001 x124002))) else (some false))) else (none)) else (some true)
end
def spec_HardOk.f (k : Nat) (a0_0 : Int) (a0_1 : Int) (l0_2 : List (S64)) : Option (Bool) := (spec_l1Whole.f a0_0).bind fun t124 => (if t124 = true then ((spec_l1In.f a0_1 0 5).bind fun t125 => (if t125 = true then (spec_HardOk.j0 k (decide ((l0_2.length : Int) > 80)) a0_0 a0_1 l0_2) else (spec_HardOk.j0 k true a0_0 a0_1 l0_2))) else (spec_HardOk.j0 k true a0_0 a0_1 l0_2))
theorem spec_HardOk.mono_l : ∀ k, (∀ y0 y1 y2 y3, LeO (spec_HardOk.j0 k y0 y1 y2 y3) (spec_HardOk.j0 (k + 1) y0 y1 y2 y3)) ∧ (∀ y0 y1 y2 y3, LeO (spec_HardOk.l0 k y0 y1 y2 y3) (spec_HardOk.l0 (k + 1) y0 y1 y2 y3))
 | 0 => ⟨fun _ _ _ _ r h => by simp [spec_HardOk.j0] at h, fun _ _ _ _ r h => by simp [spec_HardOk.l0] at h⟩
 | k + 1 => by
  obtain ⟨ih0, ih1⟩ := spec_HardOk.mono_l k
  refine ⟨?_, ?_⟩
  ·intro y0 y1 y2 y3
   unfold spec_HardOk.j0
   repeat' first
   | (with_reducible exact ih0 _ _ _ _)
   | (with_reducible exact ih1 _ _ _ _)
   | (with_reducible exact spec_l6Entry.mono _ _ _ _ _ _ _)
   | (with_reducible exact LeO.refl _)
   | (with_reducible exact LeO.none _)
   | (with_reducible refine LeO.ite ?_ ?_)
   | (with_reducible refine LeO.bind ?_ (fun _ => ?_))
   | exact ih0 _ _ _ _
   | exact ih1 _ _ _ _
   | exact spec_l6Entry.mono _ _ _ _ _ _ _
   | exact LeO.none _
   | refine LeO.ite ?_ ?_
   | refine LeO.bind ?_ (fun _ => ?_)
  ·intro y0 y1 y2 y3
   unfold spec_HardOk.l0
   repeat' first
   | (with_reducible exact ih0 _ _ _ _)
   | (with_reducible exact ih1 _ _ _ _)
   | (with_reducible exact spec_l6Entry.mono _ _ _ _ _ _ _)
   | (with_reducible exact LeO.refl _)
   | (with_reducible exact LeO.none _)
   | (with_reducible refine LeO.ite ?_ ?_)
   | (with_reducible refine LeO.bind ?_ (fun _ => ?_))
   | exact ih0 _ _ _ _
   | exact ih1 _ _ _ _
   | exact spec_l6Entry.mono _ _ _ _ _ _ _
   | exact LeO.none _
   | refine LeO.ite ?_ ?_
   | refine LeO.bind ?_ (fun _ => ?_)
theorem spec_HardOk.mono : ∀ a0 a1 a2 k, LeO (spec_HardOk.f k a0 a1 a2) (spec_HardOk.f (k + 1) a0 a1 a2) := by
 intro a0 a1 a2 k
 obtain ⟨ih0, ih1⟩ := spec_HardOk.mono_l k
 unfold spec_HardOk.f
 repeat' first
   | (with_reducible exact ih0 _ _ _ _)
   | (with_reducible exact ih1 _ _ _ _)
   | (with_reducible exact spec_l6Entry.mono _ _ _ _ _ _ _)
   | (with_reducible exact LeO.refl _)
   | (with_reducible exact LeO.none _)
   | (with_reducible refine LeO.ite ?_ ?_)
   | (with_reducible refine LeO.bind ?_ (fun _ => ?_))
   | exact ih0 _ _ _ _
   | exact ih1 _ _ _ _
   | exact spec_l6Entry.mono _ _ _ _ _ _ _
   | exact LeO.none _
   | refine LeO.ite ?_ ?_
   | refine LeO.bind ?_ (fun _ => ?_)
def spec_HardOk.T6 : Bool × List (List Nat × List Nat) := (true, [([], []), ([0], [0]), ([], []), ([1, 2], [1, 2]), ([3], [3]), ([4], [4]), ([5], [5]), ([6, 5], [6]), ([7], [7]), ([8, 7], [7, 8]), ([7], [7]), ([9, 10, 7], [7, 9, 10]), ([11, 7], [7, 11]), ([12, 7], [7, 12]), ([7], [7]), ([14, 7], [7, 14]), ([13, 15, 7], [7, 13, 15]), ([7, 16], [7, 16]), ([17, 7], [17]), ([18], [18]), ([19, 18], [18, 19]), ([20, 18, 18], [18, 20]), ([21], [21]), ([22, 21], [21, 22]), ([21], [21]), ([23, 24, 21], [21, 23, 24]), ([25, 21], [21, 25]), ([26, 21], [21, 26]), ([21], [21]), ([28, 21], [21, 28]), ([21], [21]), ([30, 21], [21, 30]), ([29, 31, 21], [21, 29, 31]), ([32, 21], [21, 32]), ([33, 21], [21, 33]), ([27, 34, 21], [21, 27, 34]), ([21, 35, 18], [18, 21, 35]), ([18, 36], [18, 36])])
def spec_HardOk.B6 : List Nat := [0, 1, 0, 7, 15, 31, 63, 127, 255, 511, 255, 2047, 4095, 8191, 255, 16639, 65535, 131071, 262143, 524287, 1048575, 2097151, 4194303, 8388607, 4194303, 33554431, 67108863, 134217727, 4194303, 272629759, 4194303, 1077936127, 4030726143, 8325693439, 16915628031, 34359738367, 68719476735, 137438953471]
theorem spec_HardOk.tab6 : rtab .any (opsOf Try.f21 6) = spec_HardOk.T6 := by kernel_rfl
theorem spec_HardOk.bits6 : waitsOk spec_HardOk.T6.2 spec_HardOk.B6 = true := by kernel_rfl
set_option maxHeartbeats 8000000 in
set_option maxRecDepth 100000 in
theorem spec_HardOk.calls (k : Nat) (a0_0 : Int) (a0_1 : Int) (A0_2 : Option Addr) (c0_2 : Nat) (l0_2 : List (S64)) (r : Bool) (w : World) (hr0_2 : Kd.C k64 w A0_2 l0_2.length l0_2) (hc0_2 : l0_2.length ≤ c0_2) (h : spec_HardOk.f k a0_0 a0_1 l0_2 = some r) :
  Calls Try.prog 21 #[.agg #[.int .i64 a0_0, .int .i64 a0_1, .slice A0_2 l0_2.length c0_2]] w fun e w' => e = .returned (.bool r) ∧ Below w.heap.size w w' := by
 have hu32 := Try.underlying32
 have hu64 := Try.underlying64
 have HR0_2 := Aside0.mk hr0_2
 have HC0_2 := Aside0.mk hc0_2
 clear hr0_2 hc0_2
 have HB := Aside0.mk (Below.refl w.heap.size w)
 have H : ((spec_l1Whole.f a0_0).bind fun t124 => (if t124 = true then ((spec_l1In.f a0_1 0 5).bind fun t125 => (if t125 = true then (spec_HardOk.j0 k (decide ((l0_2.length : Int) > 80)) a0_0 a0_1 l0_2) else (spec_HardOk.j0 k true a0_0 a0_1 l0_2))) else (spec_HardOk.j0 k true a0_0 a0_1 l0_2))) = some r := h
 clear h
 have HC2 := Aside0.mk H
 clear H
 go_enter Try.func21, Try.ntmps21
 go_upto_region 1 with (first | ((with_reducible refine gate_dst (N := 1) rfl ?_); (try (refine gate_guard (by rfl) ?_; dsimp only)); refine box_event ?hg (N := 1) ?hd (cs := #[.int .i64 a0_0, .int .i64 a0_1, .slice A0_2 l0_2.length c0_2]) (t := 32) ?hr ?_; (case hd => rfl); (case hg => rfl); (case hr => first | (go_simp; done) | (go_simp; rfl)); intro gb123 hg w3 hbox hb; have n0_ := Aside0.mk (below_step (by repeat (first | (with_reducible first | exact HB.out | apply below_alloc | apply pw_below_drewN | apply below_drew1) | exact HB.out)) hb); have n1_ := Aside0.mk (hbox); have n2_ := Aside0.mk ((by rw [hg]; exact (below_size (by repeat (first | (with_reducible first | exact HB.out | apply below_alloc | apply pw_below_drewN | apply below_drew1) | exact HB.out))) : w.heap.size ≤ gb123)); have n3_ := Aside0.mk ((by rw [hg]; exact (below_size (by repeat (first | (with_reducible first | exact HB.out | apply below_alloc | apply pw_below_drewN | apply below_drew1) | exact HB.out))) : w.heap.size ≤ gb123)); clear HB; have HB := n0_; have BK123 := n1_; have GW123 := n2_; have GE123 := n3_; clear n0_ n1_ n2_ n3_; clear hb hbox hg))
 (try simp only [Act.put, List.setIfInBounds_toArray, List.set_cons_zero, List.set_cons_succ])
 go_cut [19] (fun v19 wc => ∃ (kq : Nat) (x19_1 : Bool), v19 = .bool x19_1 ∧ Aside0 (spec_HardOk.j0 kq x19_1 a0_0 a0_1 l0_2 = some r) ∧ Aside0 (kq ≤ k) ∧ Aside0 (wc.heap[gb123]? = some (.cells #[.int .i64 a0_0, .int .i64 a0_1, (.slice A0_2 l0_2.length c0_2)] 32 (0, 0))) ∧ Aside0 (Below w.heap.size w wc))
 case first =>
  have H := HC2.out
  clear HC2
  go_upto_region 1 with (fail)
  replace H := Option.bind_eq_some_iff.mp H
  obtain ⟨t124, A40, H⟩ := H
  replace H : (if t124 = true then ((spec_l1In.f a0_1 0 5).bind fun t125 => (if t125 = true then (spec_HardOk.j0 k (decide ((l0_2.length : Int) > 80)) a0_0 a0_1 l0_2) else (spec_HardOk.j0 k true a0_0 a0_1 l0_2))) else (spec_HardOk.j0 k true a0_0 a0_1 l0_2)) = some r := H
  have A4 := Aside0.mk A40
  clear A40
  by_cases c5 : t124 = true
  ·subst c5
   have H1 : ((spec_l1In.f a0_1 0 5).bind fun t125 => (if t125 = true then (spec_HardOk.j0 k (decide ((l0_2.length : Int) > 80)) a0_0 a0_1 l0_2) else (spec_HardOk.j0 k true a0_0 a0_1 l0_2))) = some r := by rw [if_pos rfl] at H; exact H
   clear H
   have H := H1
   clear H1
   replace H := Option.bind_eq_some_iff.mp H
   obtain ⟨t125, A60, H⟩ := H
   replace H : (if t125 = true then (spec_HardOk.j0 k (decide ((l0_2.length : Int) > 80)) a0_0 a0_1 l0_2) else (spec_HardOk.j0 k true a0_0 a0_1 l0_2)) = some r := H
   have A6 := Aside0.mk A60
   clear A60
   by_cases c7 : t125 = true
   ·subst c7
    have H1 : (spec_HardOk.j0 k (decide ((l0_2.length : Int) > 80)) a0_0 a0_1 l0_2) = some r := by rw [if_pos rfl] at H; exact H
    clear H
    have H := H1
    clear H1
    have H' := Aside0.mk H
    clear H
    have hcz8_0 : w3.cell? ⟨gb123, 0, none⟩ = some (.int .i64 a0_0) := (blk_cell BK123.out 0).trans rfl
    have hcz8_1 : w3.cell? ⟨gb123, 1, none⟩ = some (.int .i64 a0_1) := (blk_cell BK123.out 1).trans rfl
    have hcz8_2 : w3.cell? ⟨gb123, 2, none⟩ = some (.slice A0_2 l0_2.length c0_2) := (blk_cell BK123.out 2).trans rfl
    have hfz8_0 := blk_frozen BK123.out 0
    have hfz8_1 := blk_frozen BK123.out 1
    have hfz8_2 := blk_frozen BK123.out 2
    go_wp2_with (first | ((with_reducible refine gate_callee (f := 42) rfl ?_); refine goesL_ (some 6) rfl rfl Try.func42 (by kernel_rfl) rfl #[.int .i64 a0_0] rfl (by (try simp only [List.map_toArray, List.map_cons, List.map_nil]); first | done | rfl | (simp only [List.length_drop, List.length_take]; rfl)) ?_; (with_reducible refine (spec_l1Whole.calls a0_0 true _ A4.out).mono ?_); rintro e w' ⟨rfl, ⟨nd, rfl⟩⟩; refine ⟨_, rfl, ?_⟩) | (go_at_call 20; (with_reducible refine (spec_l1In.calls a0_1 0 5 true _ A6.out).mono ?_); rintro e w' ⟨rfl, ⟨nd, rfl⟩⟩))
    go_meet
    case rel => exact ⟨_, (decide ((l0_2.length : Int) > 80)), (by first | rfl | (simp; done) | (simp [*]; done)), H', ⟨by first | omega | exact Nat.le_refl _⟩, ⟨by (with_reducible repeat (first | refine blk_drewN ?_ _ | refine blk_drew ?_ | refine blk_alloc ?_ _)); exact BK123.out⟩, ⟨by repeat (first | (with_reducible first | exact HB.out | apply below_alloc | apply pw_below_drewN | apply below_drew1 | refine below_set ?_ GE123.out) | exact HB.out)⟩⟩
   ·replace c7 := Bool.eq_false_iff.mpr c7
    subst c7
    have H1 : (spec_HardOk.j0 k true a0_0 a0_1 l0_2) = some r := by rw [if_neg (show ¬ (false = true) by decide)] at H; exact H
    clear H
    have H := H1
    clear H1
    have H' := Aside0.mk H
    clear H
    have hcz9_0 : w3.cell? ⟨gb123, 0, none⟩ = some (.int .i64 a0_0) := (blk_cell BK123.out 0).trans rfl
    have hcz9_1 : w3.cell? ⟨gb123, 1, none⟩ = some (.int .i64 a0_1) := (blk_cell BK123.out 1).trans rfl
    have hcz9_2 : w3.cell? ⟨gb123, 2, none⟩ = some (.slice A0_2 l0_2.length c0_2) := (blk_cell BK123.out 2).trans rfl
    have hfz9_0 := blk_frozen BK123.out 0
    have hfz9_1 := blk_frozen BK123.out 1
    have hfz9_2 := blk_frozen BK123.out 2
    go_wp2_with (first | ((with_reducible refine gate_callee (f := 42) rfl ?_); refine goesL_ (some 6) rfl rfl Try.func42 (by kernel_rfl) rfl #[.int .i64 a0_0] rfl (by (try simp only [List.map_toArray, List.map_cons, List.map_nil]); first | done | rfl | (simp only [List.length_drop, List.length_take]; rfl)) ?_; (with_reducible refine (spec_l1Whole.calls a0_0 true _ A4.out).mono ?_); rintro e w' ⟨rfl, ⟨nd, rfl⟩⟩; refine ⟨_, rfl, ?_⟩) | (go_at_call 20; (with_reducible refine (spec_l1In.calls a0_1 0 5 false _ A6.out).mono ?_); rintro e w' ⟨rfl, ⟨nd, rfl⟩⟩))
    go_meet
    case rel => exact ⟨_, (true), (by first | rfl | (simp; done) | (simp [*]; done)), H', ⟨by first | omega | exact Nat.le_refl _⟩, ⟨by (with_reducible repeat (first | refine blk_drewN ?_ _ | refine blk_drew ?_ | refine blk_alloc ?_ _)); exact BK123.out⟩, ⟨by repeat (first | (with_reducible first | exact HB.out | apply below_alloc | apply pw_below_drewN | apply below_drew1 | refine below_set ?_ GE123.out) | exact HB.out)⟩⟩
  ·replace c5 := Bool.eq_false_iff.mpr c5
   subst c5
   have H1 : (spec_HardOk.j0 k true a0_0 a0_1 l0_2) = some r := by rw [if_neg (show ¬ (false = true) by decide)] at H; exact H
   clear H
   have H := H1
   clear H1
   have H' := Aside0.mk H
   clear H
   have hcz10_0 : w3.cell? ⟨gb123, 0, none⟩ = some (.int .i64 a0_0) := (blk_cell BK123.out 0).trans rfl
   have hcz10_1 : w3.cell? ⟨gb123, 1, none⟩ = some (.int .i64 a0_1) := (blk_cell BK123.out 1).trans rfl
   have hcz10_2 : w3.cell? ⟨gb123, 2, none⟩ = some (.slice A0_2 l0_2.length c0_2) := (blk_cell BK123.out 2).trans rfl
   have hfz10_0 := blk_frozen BK123.out 0
   have hfz10_1 := blk_frozen BK123.out 1
   have hfz10_2 := blk_frozen BK123.out 2
   go_wp2_with (first | ((with_reducible refine gate_callee (f := 42) rfl ?_); refine goesL_ (some 6) rfl rfl Try.func42 (by kernel_rfl) rfl #[.int .i64 a0_0] rfl (by (try simp only [List.map_toArray, List.map_cons, List.map_nil]); first | done | rfl | (simp only [List.length_drop, List.length_take]; rfl)) ?_; (with_reducible refine (spec_l1Whole.calls a0_0 false _ A4.out).mono ?_); rintro e w' ⟨rfl, ⟨nd, rfl⟩⟩; refine ⟨_, rfl, ?_⟩))
   go_meet
   case rel => exact ⟨_, (true), (by first | rfl | (simp; done) | (simp [*]; done)), H', ⟨by first | omega | exact Nat.le_refl _⟩, ⟨by (with_reducible repeat (first | refine blk_drewN ?_ _ | refine blk_drew ?_ | refine blk_alloc ?_ _)); exact BK123.out⟩, ⟨by repeat (first | (with_reducible first | exact HB.out | apply below_alloc | apply pw_below_drewN | apply below_drew1 | refine below_set ?_ GE123.out) | exact HB.out)⟩⟩
 case rest =>
  clear HC2
  try clear c2
  try clear p2
  try clear c4
  try clear c5
  try clear c7
  (try clear hcz10_0; try clear hcz10_1; try clear hcz10_2; try clear hcz8_0; try clear hcz8_1; try clear hcz8_2; try clear hcz9_0; try clear hcz9_1; try clear hcz9_2; try clear hfz10_0; try clear hfz10_1; try clear hfz10_2; try clear hfz8_0; try clear hfz8_1; try clear hfz8_2; try clear hfz9_0; try clear hfz9_1; try clear hfz9_2)
  obtain ⟨kq, x19_1, rfl, HA, HJ1, BK123, HB⟩ := hcut
  cases kq with
  | zero => exact absurd HA.out (by simp [spec_HardOk.j0])
  | succ kj1 =>
   have H := HA.out
   clear HA
   simp only [spec_HardOk.j0] at H
   go_upto_if 19 with (fail)
   by_cases c11 : x19_1 = true
   ·subst c11
    have H1 : (some false) = some r := by rw [if_pos rfl] at H; exact H
    clear H
    have H := H1
    clear H1
    obtain rfl := Option.some.inj H
    go_wp2
    go_ret
    exact ⟨by first | rfl | (simp [errW_none, errW_some] <;> rfl) | (simp [*, errW_none, errW_some] <;> rfl), by repeat (first | (with_reducible first | exact HB.out | apply below_alloc | apply pw_below_drewN | apply below_drew1 | refine below_set ?_ GE123.out) | exact HB.out)⟩
   ·replace c11 := Bool.eq_false_iff.mpr c11
    subst c11
    have H1 : (spec_HardOk.l0 kj1 0 a0_0 a0_1 l0_2) = some r := by rw [if_neg (show ¬ (false = true) by decide)] at H; exact H
    clear H
    have H := H1
    clear H1
    have H' := Aside0.mk H
    clear H
    go_wp2
    go_loopg [3] kj1 (fun kq v3 w' => ∃ (x3_2 : Int), v3 = .int .i64 x3_2 ∧ Aside0 (spec_HardOk.l0 kq x3_2 a0_0 a0_1 l0_2 = some r) ∧ Aside0 (kq ≤ kj1) ∧ Aside0 (w'.heap[gb123]? = some (.cells #[.int .i64 a0_0, .int .i64 a0_1, (.slice A0_2 l0_2.length c0_2)] 32 (0, 0))) ∧ Aside0 (Below w.heap.size w w'))
    case atStart => exact ⟨(0), (by first | rfl | (simp; done) | (simp [*]; done)), H', ⟨Nat.le_refl _⟩, ⟨by (with_reducible repeat (first | refine blk_drewN ?_ _ | refine blk_drew ?_ | refine blk_alloc ?_ _)); exact BK123.out⟩, ⟨by repeat (first | (with_reducible first | exact HB.out | apply below_alloc | apply pw_below_drewN | apply below_drew1 | refine below_set ?_ GE123.out) | exact HB.out)⟩⟩
    case round =>
     clear H'
     try clear c1
     try clear c2
     try clear p2
     try clear c4
     try clear c5
     try clear c7
     try clear c11
     (try clear hcz10_0; try clear hcz10_1; try clear hcz10_2; try clear hcz8_0; try clear hcz8_1; try clear hcz8_2; try clear hcz9_0; try clear hcz9_1; try clear hcz9_2; try clear hfz10_0; try clear hfz10_1; try clear hfz10_2; try clear hfz8_0; try clear hfz8_1; try clear hfz8_2; try clear hfz9_0; try clear hfz9_1; try clear hfz9_2)
     try clear p2
     obtain ⟨x3_2, rfl, HA, HK2, BK123, HB⟩ := hrel
     cases gk with
     | zero => exact absurd HA.out (by simp [spec_HardOk.l0])
     | succ k2 =>
      have H := HA.out
      clear HA
      simp only [spec_HardOk.l0] at H
      have hcz12_0 : wr.cell? ⟨gb123, 0, none⟩ = some (.int .i64 a0_0) := (blk_cell BK123.out 0).trans rfl
      have hcz12_1 : wr.cell? ⟨gb123, 1, none⟩ = some (.int .i64 a0_1) := (blk_cell BK123.out 1).trans rfl
      have hcz12_2 : wr.cell? ⟨gb123, 2, none⟩ = some (.slice A0_2 l0_2.length c0_2) := (blk_cell BK123.out 2).trans rfl
      have hfz12_0 := blk_frozen BK123.out 0
      have hfz12_1 := blk_frozen BK123.out 1
      have hfz12_2 := blk_frozen BK123.out 2
      go_upto_if 24 with (fail)
      by_cases c13 : x3_2 < (l0_2.length : Int)
      ·rw [if_pos c13] at H
       have c13b0 : decide (x3_2 < (l0_2.length : Int)) = true := decide_eq_true c13
       clear c13
       (first | rw [c13b0] | (simp only [i64_w, i32_w]; rw [c13b0]) | skip)
       by_cases c14 : 0 ≤ x3_2
       ·rw [if_pos c14] at H
        have c14b0 : decide (0 ≤ x3_2) = true := decide_eq_true c14
        clear c14
        replace H := Option.bind_eq_some_iff.mp H
        obtain ⟨t127, A150, H⟩ := H
        replace H : (if t127 = true then (if ((rd_T64 l0_2 x3_2).f0) > a0_0 then (some false) else (if x3_2 > 0 then (if 0 ≤ (wrap64 (x3_2 - 1)) then (if (wrap64 (x3_2 - 1)) < (l0_2.length : Int) then (if ((rd_T64 l0_2 x3_2).f0) < ((rd_T64 l0_2 (wrap64 (x3_2 - 1))).f0) then (some false) else (spec_HardOk.l0 k2 (wrap64 (x3_2 + 1)) a0_0 a0_1 l0_2)) else (none)) else (none)) else (spec_HardOk.l0 k2 (wrap64 (x3_2 + 1)) a0_0 a0_1 l0_2))) else (some false)) = some r := H
        have A15 := Aside0.mk A150
        clear A150
        by_cases c16 : t127 = true
        ·subst c16
         have H1 : (if ((rd_T64 l0_2 x3_2).f0) > a0_0 then (some false) else (if x3_2 > 0 then (if 0 ≤ (wrap64 (x3_2 - 1)) then (if (wrap64 (x3_2 - 1)) < (l0_2.length : Int) then (if ((rd_T64 l0_2 x3_2).f0) < ((rd_T64 l0_2 (wrap64 (x3_2 - 1))).f0) then (some false) else (spec_HardOk.l0 k2 (wrap64 (x3_2 + 1)) a0_0 a0_1 l0_2)) else (none)) else (none)) else (spec_HardOk.l0 k2 (wrap64 (x3_2 + 1)) a0_0 a0_1 l0_2))) = some r := by rw [if_pos rfl] at H; exact H
         clear H
         have H := H1
         clear H1
         by_cases c17 : ((rd_T64 l0_2 x3_2).f0) > a0_0
         ·rw [if_pos c17] at H
          have c17b0 : decide (a0_0 < ((rd_T64 l0_2 x3_2).f0)) = true := decide_eq_true c17
          clear c17
          obtain rfl := Option.some.inj H
          try go_wp2
          have n0_ := Aside0.mk (blk_drew BK123.out)
          have n1_ := Aside0.mk (below_drew1 HB.out)
          clear BK123
          clear HB
          have BK123 := n0_
          have HB := n1_
          clear n0_ n1_
          have p126 : 0 ≤ (x3_2 : Int) := of_decide_eq_true (by first | (with_reducible assumption) | assumption)
          have q126 : x3_2 < (l0_2.length : Int) := of_decide_eq_true (by first | (with_reducible assumption) | assumption)
          obtain ⟨ad126, e126, hx126_0, hx126_1, hx126_2, hx126_3, hx126_4, hx126_5⟩ := at_T64 HR0_2.out x3_2 p126 q126
          have hw126_5 := hx126_5
          have hw126_4 := hx126_4
          have hw126_3 := hx126_3
          have hw126_2 := hx126_2
          have hw126_1 := hx126_1
          have hw126_0 := hx126_0
          cases e126
          replace hx126_0 := (HB.out.cell (World.block_lt_of_cell? w _ hx126_0)).trans hx126_0
          replace hx126_1 := (HB.out.cell (World.block_lt_of_cell? w _ hx126_1)).trans hx126_1
          replace hx126_2 := (HB.out.cell (World.block_lt_of_cell? w _ hx126_2)).trans hx126_2
          replace hx126_3 := (HB.out.cell (World.block_lt_of_cell? w _ hx126_3)).trans hx126_3
          replace hx126_4 := (HB.out.cell (World.block_lt_of_cell? w _ hx126_4)).trans hx126_4
          replace hx126_5 := (HB.out.cell (World.block_lt_of_cell? w _ hx126_5)).trans hx126_5
          replace p126 := eq_true p126
          replace q126 := eq_true q126
          have p128 : 0 ≤ (x3_2 : Int) := of_decide_eq_true (by first | (with_reducible assumption) | assumption)
          have q128 : x3_2 < (l0_2.length : Int) := of_decide_eq_true (by first | (with_reducible assumption) | assumption)
          obtain ⟨ad128, e128, hx128_0, hx128_1, hx128_2, hx128_3, hx128_4, hx128_5⟩ := at_T64 HR0_2.out x3_2 p128 q128
          have hw128_5 := hx128_5
          have hw128_4 := hx128_4
          have hw128_3 := hx128_3
          have hw128_2 := hx128_2
          have hw128_1 := hx128_1
          have hw128_0 := hx128_0
          obtain rfl : ad126 = ad128 := (by injection e128)
          replace hx128_0 := (HB.out.cell (World.block_lt_of_cell? w _ hx128_0)).trans hx128_0
          replace hx128_1 := (HB.out.cell (World.block_lt_of_cell? w _ hx128_1)).trans hx128_1
          replace hx128_2 := (HB.out.cell (World.block_lt_of_cell? w _ hx128_2)).trans hx128_2
          replace hx128_3 := (HB.out.cell (World.block_lt_of_cell? w _ hx128_3)).trans hx128_3
          replace hx128_4 := (HB.out.cell (World.block_lt_of_cell? w _ hx128_4)).trans hx128_4
          replace hx128_5 := (HB.out.cell (World.block_lt_of_cell? w _ hx128_5)).trans hx128_5
          replace p128 := eq_true p128
          replace q128 := eq_true q128
          refine start_ (n := 38) (S := fun w' => w'.cell? ⟨gb123, 0, none⟩ = some (.int .i64 a0_0) ∧ w'.cell? ⟨gb123, 1, none⟩ = some (.int .i64 a0_1) ∧ w'.cell? ⟨gb123, 2, none⟩ = some (.slice (some ad126) l0_2.length c0_2) ∧ w'.cell? (ad126.add ((x3_2).toNat * 6)) = some (.int .i64 ((rd_T64 l0_2 x3_2).f0)) ∧ w'.cell? ⟨(ad126.add ((x3_2).toNat * 6)).block, (ad126.add ((x3_2).toNat * 6)).off + 1, none⟩ = some (.int .i64 ((rd_T64 l0_2 x3_2).f1.f0)) ∧ w'.cell? ⟨(ad126.add ((x3_2).toNat * 6)).block, (ad126.add ((x3_2).toNat * 6)).off + 2, none⟩ = some (.int .i64 ((rd_T64 l0_2 x3_2).f1.f1)) ∧ w'.cell? ⟨(ad126.add ((x3_2).toNat * 6)).block, (ad126.add ((x3_2).toNat * 6)).off + 3, none⟩ = some (.int .i64 ((rd_T64 l0_2 x3_2).f1.f2)) ∧ w'.cell? ⟨(ad126.add ((x3_2).toNat * 6)).block, (ad126.add ((x3_2).toNat * 6)).off + 4, none⟩ = some (.int .i64 ((rd_T64 l0_2 x3_2).f1.f3)) ∧ w'.cell? ⟨(ad126.add ((x3_2).toNat * 6)).block, (ad126.add ((x3_2).toNat * 6)).off + 5, none⟩ = some (.string ((rd_T64 l0_2 x3_2).f1.f4)) ∧ w'.cell? (ad126.add ((x3_2).toNat * 6)) = some (.int .i64 ((rd_T64 l0_2 x3_2).f0)) ∧ w'.cell? ⟨(ad126.add ((x3_2).toNat * 6)).block, (ad126.add ((x3_2).toNat * 6)).off + 1, none⟩ = some (.int .i64 ((rd_T64 l0_2 x3_2).f1.f0)) ∧ w'.cell? ⟨(ad126.add ((x3_2).toNat * 6)).block, (ad126.add ((x3_2).toNat * 6)).off + 2, none⟩ = some (.int .i64 ((rd_T64 l0_2 x3_2).f1.f1)) ∧ w'.cell? ⟨(ad126.add ((x3_2).toNat * 6)).block, (ad126.add ((x3_2).toNat * 6)).off + 3, none⟩ = some (.int .i64 ((rd_T64 l0_2 x3_2).f1.f2)) ∧ w'.cell? ⟨(ad126.add ((x3_2).toNat * 6)).block, (ad126.add ((x3_2).toNat * 6)).off + 4, none⟩ = some (.int .i64 ((rd_T64 l0_2 x3_2).f1.f3)) ∧ w'.cell? ⟨(ad126.add ((x3_2).toNat * 6)).block, (ad126.add ((x3_2).toNat * 6)).off + 5, none⟩ = some (.string ((rd_T64 l0_2 x3_2).f1.f4))) (ds := []) m4_0 (by kernel_rfl) rfl rfl ⟨(blk_cell BK123.out 0).trans rfl, (blk_cell BK123.out 1).trans rfl, (blk_cell BK123.out 2).trans rfl, ((HB.out.cell (World.block_lt_of_cell? w _ hw126_0)).trans hw126_0), ((HB.out.cell (World.block_lt_of_cell? w _ hw126_1)).trans hw126_1), ((HB.out.cell (World.block_lt_of_cell? w _ hw126_2)).trans hw126_2), ((HB.out.cell (World.block_lt_of_cell? w _ hw126_3)).trans hw126_3), ((HB.out.cell (World.block_lt_of_cell? w _ hw126_4)).trans hw126_4), ((HB.out.cell (World.block_lt_of_cell? w _ hw126_5)).trans hw126_5), ((HB.out.cell (World.block_lt_of_cell? w _ hw128_0)).trans hw128_0), ((HB.out.cell (World.block_lt_of_cell? w _ hw128_1)).trans hw128_1), ((HB.out.cell (World.block_lt_of_cell? w _ hw128_2)).trans hw128_2), ((HB.out.cell (World.block_lt_of_cell? w _ hw128_3)).trans hw128_3), ((HB.out.cell (World.block_lt_of_cell? w _ hw128_4)).trans hw128_4), ((HB.out.cell (World.block_lt_of_cell? w _ hw128_5)).trans hw128_5)⟩ (fun hHeld => ?_); refine with_tabW spec_HardOk.tab6 spec_HardOk.bits6 (fun HT_ HW_ => ?_)
          generalize wr.drew = w18 at BK123 HB hx126_0 hx126_1 hx126_2 hx126_3 hx126_4 hx126_5 hx128_0 hx128_1 hx128_2 hx128_3 hx128_4 hx128_5 hHeld ⊢
          refine p4_ 0 (some 27) m4_1 (any_of HT_.out (by kernel_rfl)) ?_
          refine p4_ 2 (some 29) m4_2 (any_of HT_.out (by kernel_rfl)) ?_
          refine take_ (i := 1) (N := some 28) (v := ?_) (a' := ?_) m4_3 rfl rfl (take_ofW HT_.out HW_.out (by kernel_rfl)) (fun _ _ _ h => h) (Or.inl ⟨by rfl, ?_⟩) hHeld ?_ ?_
          rotate_left
          ·rintro w' ⟨s0, s1, s2, s3, s4, s5, s6, s7, s8, s9, s10, s11, s12, s13, s14⟩
           go_simp
           with_reducible rfl
          rotate_left
          ·simp only [Act.put, List.setIfInBounds_toArray, List.set_cons_zero, List.set_cons_succ, i64_w, i32_w]
           rfl
          refine p4_ 3 (some 30) m4_4 (any_of HT_.out (by kernel_rfl)) ?_
          refine take_ (i := 4) (N := some 31) (v := ?_) (a' := ?_) m4_5 rfl rfl (take_ofW HT_.out HW_.out (by kernel_rfl)) (fun _ _ _ h => h) (Or.inl ⟨by rfl, ?_⟩) hHeld ?_ ?_
          rotate_left
          ·rintro w' ⟨s0, s1, s2, s3, s4, s5, s6, s7, s8, s9, s10, s11, s12, s13, s14⟩
           go_simp
           with_reducible rfl
          rotate_left
          ·simp only [Act.put, List.setIfInBounds_toArray, List.set_cons_zero, List.set_cons_succ, i64_w, i32_w]
           rfl
          refine one_ (i := 5) (N := some 32) m4_6 rfl rfl (one_of HT_.out (by kernel_rfl)) (by decide) (fun K hK => ?_)
          refine goes_ Try.func43 (by kernel_rfl) rfl #[.agg #[.int .i64 ((rd_T64 l0_2 x3_2).f0), .int .i64 ((rd_T64 l0_2 x3_2).f1.f0), .int .i64 ((rd_T64 l0_2 x3_2).f1.f1), .int .i64 ((rd_T64 l0_2 x3_2).f1.f2), .int .i64 ((rd_T64 l0_2 x3_2).f1.f3), .string ((rd_T64 l0_2 x3_2).f1.f4)]] (by rfl) rfl rfl (by (try simp only [List.map_toArray, List.map_cons, List.map_nil]); first | done | rfl | (simp only [List.length_drop, List.length_take]; rfl)) ?_
          with_reducible refine (spec_l6Entry.calls k2 ((rd_T64 l0_2 x3_2).f0) ((rd_T64 l0_2 x3_2).f1.f0) ((rd_T64 l0_2 x3_2).f1.f1) ((rd_T64 l0_2 x3_2).f1.f2) ((rd_T64 l0_2 x3_2).f1.f3) ((rd_T64 l0_2 x3_2).f1.f4) true _ A15.out).mono ?_
          rintro e w19 ⟨rfl, hb⟩
          refine ⟨_, rfl, ?_⟩
          have n0_ := Aside0.mk (blk_below (g := gb123) (o := .cells #[.int .i64 a0_0, .int .i64 a0_1, .slice (some ad126) l0_2.length c0_2] 32 (0, 0)) (by (with_reducible repeat (first | refine blk_drewN ?_ _ | refine blk_drew ?_ | refine blk_alloc ?_ _)); exact BK123.out) hb)
          have n1_ := Aside0.mk (below_step (by repeat (first | (with_reducible first | exact HB.out | apply below_alloc | apply pw_below_drewN | apply below_drew1 | refine below_set ?_ GE123.out) | exact HB.out)) hb)
          clear BK123
          clear HB
          have BK123 := n0_
          have HB := n1_
          clear n0_ n1_
          (try clear hb)
          (try clear hb2)
          (try clear hk)
          (try clear hi)
          refine hK.out _ _ ⟨(blk_cell BK123.out 0).trans rfl, (blk_cell BK123.out 1).trans rfl, (blk_cell BK123.out 2).trans rfl, ((HB.out.cell (World.block_lt_of_cell? w _ hw126_0)).trans hw126_0), ((HB.out.cell (World.block_lt_of_cell? w _ hw126_1)).trans hw126_1), ((HB.out.cell (World.block_lt_of_cell? w _ hw126_2)).trans hw126_2), ((HB.out.cell (World.block_lt_of_cell? w _ hw126_3)).trans hw126_3), ((HB.out.cell (World.block_lt_of_cell? w _ hw126_4)).trans hw126_4), ((HB.out.cell (World.block_lt_of_cell? w _ hw126_5)).trans hw126_5), ((HB.out.cell (World.block_lt_of_cell? w _ hw128_0)).trans hw128_0), ((HB.out.cell (World.block_lt_of_cell? w _ hw128_1)).trans hw128_1), ((HB.out.cell (World.block_lt_of_cell? w _ hw128_2)).trans hw128_2), ((HB.out.cell (World.block_lt_of_cell? w _ hw128_3)).trans hw128_3), ((HB.out.cell (World.block_lt_of_cell? w _ hw128_4)).trans hw128_4), ((HB.out.cell (World.block_lt_of_cell? w _ hw128_5)).trans hw128_5)⟩ (fun hHeld => ?_)
          clear hK K
          refine norm_ (a' := ?_) ?_ ?_
          rotate_left
          ·show Act.put _ (some 32) _ = _
           simp only [Act.put, List.setIfInBounds_toArray, List.set_cons_zero, List.set_cons_succ, i64_w, i32_w]
           rfl
          refine p4_ 6 (some 33) m4_7 (any_of HT_.out (by kernel_rfl)) ?_
          refine p4_ 7 (some 34) m4_8 (any_of HT_.out (by kernel_rfl)) ?_
          refine p4_ 8 (some 35) m4_9 (any_of HT_.out (by kernel_rfl)) ?_
          refine p4_ 10 (some 37) m4_26 (any_of HT_.out (by kernel_rfl)) ?_
          refine p4_ 14 (some 41) m4_27 (any_of HT_.out (by kernel_rfl)) ?_
          refine take_ (i := 9) (N := some 36) (v := ?_) (a' := ?_) m4_28 rfl rfl (take_ofW HT_.out HW_.out (by kernel_rfl)) (fun _ _ _ h => h) (Or.inl ⟨by rfl, ?_⟩) hHeld ?_ ?_
          rotate_left
          ·rintro w' ⟨s0, s1, s2, s3, s4, s5, s6, s7, s8, s9, s10, s11, s12, s13, s14⟩
           go_simp
           with_reducible rfl
          rotate_left
          ·simp only [Act.put, List.setIfInBounds_toArray, List.set_cons_zero, List.set_cons_succ, i64_w, i32_w]
           rfl
          refine p4_ 11 (some 38) m4_29 (any_of HT_.out (by kernel_rfl)) ?_
          refine p4_ 12 (some 39) m4_30 (any_of HT_.out (by kernel_rfl)) ?_
          refine take_ (i := 13) (N := some 40) (v := ?_) (a' := ?_) m4_10 rfl rfl (take_ofW HT_.out HW_.out (by kernel_rfl)) (fun _ _ _ h => h) (Or.inl ⟨by rfl, ?_⟩) hHeld ?_ ?_
          rotate_left
          ·rintro w' ⟨s0, s1, s2, s3, s4, s5, s6, s7, s8, s9, s10, s11, s12, s13, s14⟩
           go_simp
           with_reducible rfl
          rotate_left
          ·simp only [Act.put, List.setIfInBounds_toArray, List.set_cons_zero, List.set_cons_succ, i64_w, i32_w]
           rfl
          refine take_ (i := 15) (N := some 42) (v := ?_) (a' := ?_) m4_11 rfl rfl (take_ofW HT_.out HW_.out (by kernel_rfl)) (fun _ _ _ h => h) (Or.inl ⟨by rfl, ?_⟩) hHeld ?_ ?_
          rotate_left
          ·rintro w' ⟨s0, s1, s2, s3, s4, s5, s6, s7, s8, s9, s10, s11, s12, s13, s14⟩
           go_simp
           with_reducible rfl
          rotate_left
          ·simp only [Act.put, List.setIfInBounds_toArray, List.set_cons_zero, List.set_cons_succ, i64_w, i32_w]
           rfl
          refine p4_ 16 (some 43) m4_12 (any_of HT_.out (by kernel_rfl)) ?_
          refine p4_ 17 (some 44) m4_13 (any_of HT_.out (by kernel_rfl)) ?_
          refine p4_ 18 (some 45) m4_14 (any_of HT_.out (by kernel_rfl)) ?_
          refine u4_ 19 (some 46) m4_15 (any_of HT_.out (by kernel_rfl)) ?_
          refine u4_ 20 (some 47) m4_16 (any_of HT_.out (by kernel_rfl)) ?_
          refine u4_ 21 (some 48) m4_17 (any_of HT_.out (by kernel_rfl)) ?_
          refine u4_ 22 (some 49) m4_18 (any_of HT_.out (by kernel_rfl)) ?_
          refine u4_ 23 (some 50) m4_31 (any_of HT_.out (by kernel_rfl)) ?_
          refine u4_ 24 (some 51) m4_32 (any_of HT_.out (by kernel_rfl)) ?_
          refine u4_ 25 (some 52) m4_33 (any_of HT_.out (by kernel_rfl)) ?_
          refine u4_ 26 (some 53) m4_34 (any_of HT_.out (by kernel_rfl)) ?_
          refine u4_ 27 (some 54) m4_35 (any_of HT_.out (by kernel_rfl)) ?_
          refine u4_ 28 (some 55) m4_36 (any_of HT_.out (by kernel_rfl)) ?_
          refine u4_ 29 (some 56) m4_37 (any_of HT_.out (by kernel_rfl)) ?_
          refine u4_ 30 (some 57) m4_38 (any_of HT_.out (by kernel_rfl)) ?_
          refine u4_ 31 (some 58) m4_19 (any_of HT_.out (by kernel_rfl)) ?_
          refine u4_ 32 (some 59) m4_20 (any_of HT_.out (by kernel_rfl)) ?_
          refine u4_ 33 (some 60) m4_21 (any_of HT_.out (by kernel_rfl)) ?_
          refine u4_ 34 (some 61) m4_22 (any_of HT_.out (by kernel_rfl)) ?_
          refine u4_ 35 (some 62) m4_23 (any_of HT_.out (by kernel_rfl)) ?_
          refine u4_ 36 (some 63) m4_24 (any_of HT_.out (by kernel_rfl)) ?_
          refine p4_ 37 (some 64) m4_25 (any_of HT_.out (by kernel_rfl)) ?_
          refine done_ (done_of HT_.out (by kernel_rfl)) ?_
          try go_wp2
          go_ret
          exact ⟨by first | rfl | (simp [errW_none, errW_some] <;> rfl) | (simp [*, errW_none, errW_some] <;> rfl), by repeat (first | (with_reducible first | exact HB.out | apply below_alloc | apply pw_below_drewN | apply below_drew1 | refine below_set ?_ GE123.out) | exact HB.out)⟩
         ·rw [if_neg c17] at H
          have c17b0 : decide (a0_0 < ((rd_T64 l0_2 x3_2).f0)) = false := decide_eq_false c17
          clear c17
          by_cases c20 : x3_2 > 0
          ·rw [if_pos c20] at H
           have c20b0 : decide (0 < x3_2) = true := decide_eq_true c20
           clear c20
           obtain ⟨ji21, hji21⟩ : ∃ j_ : Int, (wrap64 (x3_2 - 1)) = j_ := ⟨_, rfl⟩
           replace H : (if 0 ≤ (ji21) then (if (ji21) < (l0_2.length : Int) then (if ((rd_T64 l0_2 x3_2).f0) < ((rd_T64 l0_2 (ji21)).f0) then (some false) else (spec_HardOk.l0 k2 (wrap64 (x3_2 + 1)) a0_0 a0_1 l0_2)) else (none)) else (none)) = some r := by first | (rw [hji21] at H; exact H) | (simp only [hji21] at H ⊢; exact H)
           (try rw [hji21] at A15)
           have hji21w : (IntKind.i64.wrap (x3_2 - 1)) = ji21 := (i64_w _).trans hji21
           by_cases c22 : 0 ≤ (ji21)
           ·rw [if_pos c22] at H
            have c22b0 : decide (0 ≤ (ji21)) = true := decide_eq_true c22
            clear c22
            by_cases c23 : (ji21) < (l0_2.length : Int)
            ·rw [if_pos c23] at H
             have c23b0 : decide ((ji21) < (l0_2.length : Int)) = true := decide_eq_true c23
             clear c23
             try go_wp2
             have n0_ := Aside0.mk (blk_drew BK123.out)
             have n1_ := Aside0.mk (below_drew1 HB.out)
             clear BK123
             clear HB
             have BK123 := n0_
             have HB := n1_
             clear n0_ n1_
             have p126 : 0 ≤ (x3_2 : Int) := of_decide_eq_true (by first | (with_reducible assumption) | assumption)
             have q126 : x3_2 < (l0_2.length : Int) := of_decide_eq_true (by first | (with_reducible assumption) | assumption)
             obtain ⟨ad126, e126, hx126_0, hx126_1, hx126_2, hx126_3, hx126_4, hx126_5⟩ := at_T64 HR0_2.out x3_2 p126 q126
             have hw126_5 := hx126_5
             have hw126_4 := hx126_4
             have hw126_3 := hx126_3
             have hw126_2 := hx126_2
             have hw126_1 := hx126_1
             have hw126_0 := hx126_0
             cases e126
             replace hx126_0 := (HB.out.cell (World.block_lt_of_cell? w _ hx126_0)).trans hx126_0
             replace hx126_1 := (HB.out.cell (World.block_lt_of_cell? w _ hx126_1)).trans hx126_1
             replace hx126_2 := (HB.out.cell (World.block_lt_of_cell? w _ hx126_2)).trans hx126_2
             replace hx126_3 := (HB.out.cell (World.block_lt_of_cell? w _ hx126_3)).trans hx126_3
             replace hx126_4 := (HB.out.cell (World.block_lt_of_cell? w _ hx126_4)).trans hx126_4
             replace hx126_5 := (HB.out.cell (World.block_lt_of_cell? w _ hx126_5)).trans hx126_5
             replace p126 := eq_true p126
             replace q126 := eq_true q126
             have p128 : 0 ≤ (x3_2 : Int) := of_decide_eq_true (by first | (with_reducible assumption) | assumption)
             have q128 : x3_2 < (l0_2.length : Int) := of_decide_eq_true (by first | (with_reducible assumption) | assumption)
             obtain ⟨ad128, e128, hx128_0, hx128_1, hx128_2, hx128_3, hx128_4, hx128_5⟩ := at_T64 HR0_2.out x3_2 p128 q128
             have hw128_5 := hx128_5
             have hw128_4 := hx128_4
             have hw128_3 := hx128_3
             have hw128_2 := hx128_2
             have hw128_1 := hx128_1
             have hw128_0 := hx128_0
             obtain rfl : ad126 = ad128 := (by injection e128)
             replace hx128_0 := (HB.out.cell (World.block_lt_of_cell? w _ hx128_0)).trans hx128_0
             replace hx128_1 := (HB.out.cell (World.block_lt_of_cell? w _ hx128_1)).trans hx128_1
             replace hx128_2 := (HB.out.cell (World.block_lt_of_cell? w _ hx128_2)).trans hx128_2
             replace hx128_3 := (HB.out.cell (World.block_lt_of_cell? w _ hx128_3)).trans hx128_3
             replace hx128_4 := (HB.out.cell (World.block_lt_of_cell? w _ hx128_4)).trans hx128_4
             replace hx128_5 := (HB.out.cell (World.block_lt_of_cell? w _ hx128_5)).trans hx128_5
             replace p128 := eq_true p128
             replace q128 := eq_true q128
             have p129 : 0 ≤ (x3_2 : Int) := of_decide_eq_true (by first | (with_reducible assumption) | assumption)
             have q129 : x3_2 < (l0_2.length : Int) := of_decide_eq_true (by first | (with_reducible assumption) | assumption)
             obtain ⟨ad129, e129, hx129_0, hx129_1, hx129_2, hx129_3, hx129_4, hx129_5⟩ := at_T64 HR0_2.out x3_2 p129 q129
             have hw129_5 := hx129_5
             have hw129_4 := hx129_4
             have hw129_3 := hx129_3
             have hw129_2 := hx129_2
             have hw129_1 := hx129_1
             have hw129_0 := hx129_0
             obtain rfl : ad126 = ad129 := (by injection e129)
             replace hx129_0 := (HB.out.cell (World.block_lt_of_cell? w _ hx129_0)).trans hx129_0
             replace hx129_1 := (HB.out.cell (World.block_lt_of_cell? w _ hx129_1)).trans hx129_1
             replace hx129_2 := (HB.out.cell (World.block_lt_of_cell? w _ hx129_2)).trans hx129_2
             replace hx129_3 := (HB.out.cell (World.block_lt_of_cell? w _ hx129_3)).trans hx129_3
             replace hx129_4 := (HB.out.cell (World.block_lt_of_cell? w _ hx129_4)).trans hx129_4
             replace hx129_5 := (HB.out.cell (World.block_lt_of_cell? w _ hx129_5)).trans hx129_5
             replace p129 := eq_true p129
             replace q129 := eq_true q129
             have p130 : 0 ≤ ((ji21) : Int) := of_decide_eq_true (by first | (with_reducible assumption) | assumption)
             have q130 : (ji21) < (l0_2.length : Int) := of_decide_eq_true (by first | (with_reducible assumption) | assumption)
             obtain ⟨ad130, e130, hx130_0, hx130_1, hx130_2, hx130_3, hx130_4, hx130_5⟩ := at_T64 HR0_2.out (ji21) p130 q130
             have hw130_5 := hx130_5
             have hw130_4 := hx130_4
             have hw130_3 := hx130_3
             have hw130_2 := hx130_2
             have hw130_1 := hx130_1
             have hw130_0 := hx130_0
             obtain rfl : ad126 = ad130 := (by injection e130)
             replace hx130_0 := (HB.out.cell (World.block_lt_of_cell? w _ hx130_0)).trans hx130_0
             replace hx130_1 := (HB.out.cell (World.block_lt_of_cell? w _ hx130_1)).trans hx130_1
             replace hx130_2 := (HB.out.cell (World.block_lt_of_cell? w _ hx130_2)).trans hx130_2
             replace hx130_3 := (HB.out.cell (World.block_lt_of_cell? w _ hx130_3)).trans hx130_3
             replace hx130_4 := (HB.out.cell (World.block_lt_of_cell? w _ hx130_4)).trans hx130_4
             replace hx130_5 := (HB.out.cell (World.block_lt_of_cell? w _ hx130_5)).trans hx130_5
             replace p130 := eq_true p130
             replace q130 := eq_true q130
             refine start_ (n := 38) (S := fun w' => w'.cell? ⟨gb123, 0, none⟩ = some (.int .i64 a0_0) ∧ w'.cell? ⟨gb123, 1, none⟩ = some (.int .i64 a0_1) ∧ w'.cell? ⟨gb123, 2, none⟩ = some (.slice (some ad126) l0_2.length c0_2) ∧ w'.cell? (ad126.add ((x3_2).toNat * 6)) = some (.int .i64 ((rd_T64 l0_2 x3_2).f0)) ∧ w'.cell? ⟨(ad126.add ((x3_2).toNat * 6)).block, (ad126.add ((x3_2).toNat * 6)).off + 1, none⟩ = some (.int .i64 ((rd_T64 l0_2 x3_2).f1.f0)) ∧ w'.cell? ⟨(ad126.add ((x3_2).toNat * 6)).block, (ad126.add ((x3_2).toNat * 6)).off + 2, none⟩ = some (.int .i64 ((rd_T64 l0_2 x3_2).f1.f1)) ∧ w'.cell? ⟨(ad126.add ((x3_2).toNat * 6)).block, (ad126.add ((x3_2).toNat * 6)).off + 3, none⟩ = some (.int .i64 ((rd_T64 l0_2 x3_2).f1.f2)) ∧ w'.cell? ⟨(ad126.add ((x3_2).toNat * 6)).block, (ad126.add ((x3_2).toNat * 6)).off + 4, none⟩ = some (.int .i64 ((rd_T64 l0_2 x3_2).f1.f3)) ∧ w'.cell? ⟨(ad126.add ((x3_2).toNat * 6)).block, (ad126.add ((x3_2).toNat * 6)).off + 5, none⟩ = some (.string ((rd_T64 l0_2 x3_2).f1.f4)) ∧ w'.cell? (ad126.add ((x3_2).toNat * 6)) = some (.int .i64 ((rd_T64 l0_2 x3_2).f0)) ∧ w'.cell? ⟨(ad126.add ((x3_2).toNat * 6)).block, (ad126.add ((x3_2).toNat * 6)).off + 1, none⟩ = some (.int .i64 ((rd_T64 l0_2 x3_2).f1.f0)) ∧ w'.cell? ⟨(ad126.add ((x3_2).toNat * 6)).block, (ad126.add ((x3_2).toNat * 6)).off + 2, none⟩ = some (.int .i64 ((rd_T64 l0_2 x3_2).f1.f1)) ∧ w'.cell? ⟨(ad126.add ((x3_2).toNat * 6)).block, (ad126.add ((x3_2).toNat * 6)).off + 3, none⟩ = some (.int .i64 ((rd_T64 l0_2 x3_2).f1.f2)) ∧ w'.cell? ⟨(ad126.add ((x3_2).toNat * 6)).block, (ad126.add ((x3_2).toNat * 6)).off + 4, none⟩ = some (.int .i64 ((rd_T64 l0_2 x3_2).f1.f3)) ∧ w'.cell? ⟨(ad126.add ((x3_2).toNat * 6)).block, (ad126.add ((x3_2).toNat * 6)).off + 5, none⟩ = some (.string ((rd_T64 l0_2 x3_2).f1.f4)) ∧ w'.cell? (ad126.add ((x3_2).toNat * 6)) = some (.int .i64 ((rd_T64 l0_2 x3_2).f0)) ∧ w'.cell? ⟨(ad126.add ((x3_2).toNat * 6)).block, (ad126.add ((x3_2).toNat * 6)).off + 1, none⟩ = some (.int .i64 ((rd_T64 l0_2 x3_2).f1.f0)) ∧ w'.cell? ⟨(ad126.add ((x3_2).toNat * 6)).block, (ad126.add ((x3_2).toNat * 6)).off + 2, none⟩ = some (.int .i64 ((rd_T64 l0_2 x3_2).f1.f1)) ∧ w'.cell? ⟨(ad126.add ((x3_2).toNat * 6)).block, (ad126.add ((x3_2).toNat * 6)).off + 3, none⟩ = some (.int .i64 ((rd_T64 l0_2 x3_2).f1.f2)) ∧ w'.cell? ⟨(ad126.add ((x3_2).toNat * 6)).block, (ad126.add ((x3_2).toNat * 6)).off + 4, none⟩ = some (.int .i64 ((rd_T64 l0_2 x3_2).f1.f3)) ∧ w'.cell? ⟨(ad126.add ((x3_2).toNat * 6)).block, (ad126.add ((x3_2).toNat * 6)).off + 5, none⟩ = some (.string ((rd_T64 l0_2 x3_2).f1.f4)) ∧ w'.cell? (ad126.add (((ji21)).toNat * 6)) = some (.int .i64 ((rd_T64 l0_2 (ji21)).f0)) ∧ w'.cell? ⟨(ad126.add (((ji21)).toNat * 6)).block, (ad126.add (((ji21)).toNat * 6)).off + 1, none⟩ = some (.int .i64 ((rd_T64 l0_2 (ji21)).f1.f0)) ∧ w'.cell? ⟨(ad126.add (((ji21)).toNat * 6)).block, (ad126.add (((ji21)).toNat * 6)).off + 2, none⟩ = some (.int .i64 ((rd_T64 l0_2 (ji21)).f1.f1)) ∧ w'.cell? ⟨(ad126.add (((ji21)).toNat * 6)).block, (ad126.add (((ji21)).toNat * 6)).off + 3, none⟩ = some (.int .i64 ((rd_T64 l0_2 (ji21)).f1.f2)) ∧ w'.cell? ⟨(ad126.add (((ji21)).toNat * 6)).block, (ad126.add (((ji21)).toNat * 6)).off + 4, none⟩ = some (.int .i64 ((rd_T64 l0_2 (ji21)).f1.f3)) ∧ w'.cell? ⟨(ad126.add (((ji21)).toNat * 6)).block, (ad126.add (((ji21)).toNat * 6)).off + 5, none⟩ = some (.string ((rd_T64 l0_2 (ji21)).f1.f4))) (ds := []) m4_0 (by kernel_rfl) rfl rfl ⟨(blk_cell BK123.out 0).trans rfl, (blk_cell BK123.out 1).trans rfl, (blk_cell BK123.out 2).trans rfl, ((HB.out.cell (World.block_lt_of_cell? w _ hw126_0)).trans hw126_0), ((HB.out.cell (World.block_lt_of_cell? w _ hw126_1)).trans hw126_1), ((HB.out.cell (World.block_lt_of_cell? w _ hw126_2)).trans hw126_2), ((HB.out.cell (World.block_lt_of_cell? w _ hw126_3)).trans hw126_3), ((HB.out.cell (World.block_lt_of_cell? w _ hw126_4)).trans hw126_4), ((HB.out.cell (World.block_lt_of_cell? w _ hw126_5)).trans hw126_5), ((HB.out.cell (World.block_lt_of_cell? w _ hw128_0)).trans hw128_0), ((HB.out.cell (World.block_lt_of_cell? w _ hw128_1)).trans hw128_1), ((HB.out.cell (World.block_lt_of_cell? w _ hw128_2)).trans hw128_2), ((HB.out.cell (World.block_lt_of_cell? w _ hw128_3)).trans hw128_3), ((HB.out.cell (World.block_lt_of_cell? w _ hw128_4)).trans hw128_4), ((HB.out.cell (World.block_lt_of_cell? w _ hw128_5)).trans hw128_5), ((HB.out.cell (World.block_lt_of_cell? w _ hw129_0)).trans hw129_0), ((HB.out.cell (World.block_lt_of_cell? w _ hw129_1)).trans hw129_1), ((HB.out.cell (World.block_lt_of_cell? w _ hw129_2)).trans hw129_2), ((HB.out.cell (World.block_lt_of_cell? w _ hw129_3)).trans hw129_3), ((HB.out.cell (World.block_lt_of_cell? w _ hw129_4)).trans hw129_4), ((HB.out.cell (World.block_lt_of_cell? w _ hw129_5)).trans hw129_5), ((HB.out.cell (World.block_lt_of_cell? w _ hw130_0)).trans hw130_0), ((HB.out.cell (World.block_lt_of_cell? w _ hw130_1)).trans hw130_1), ((HB.out.cell (World.block_lt_of_cell? w _ hw130_2)).trans hw130_2), ((HB.out.cell (World.block_lt_of_cell? w _ hw130_3)).trans hw130_3), ((HB.out.cell (World.block_lt_of_cell? w _ hw130_4)).trans hw130_4), ((HB.out.cell (World.block_lt_of_cell? w _ hw130_5)).trans hw130_5)⟩ (fun hHeld => ?_); refine with_tabW spec_HardOk.tab6 spec_HardOk.bits6 (fun HT_ HW_ => ?_)
             generalize wr.drew = w24 at BK123 HB hx126_0 hx126_1 hx126_2 hx126_3 hx126_4 hx126_5 hx128_0 hx128_1 hx128_2 hx128_3 hx128_4 hx128_5 hx129_0 hx129_1 hx129_2 hx129_3 hx129_4 hx129_5 hx130_0 hx130_1 hx130_2 hx130_3 hx130_4 hx130_5 hHeld ⊢
             refine p4_ 0 (some 27) m4_1 (any_of HT_.out (by kernel_rfl)) ?_
             refine p4_ 2 (some 29) m4_2 (any_of HT_.out (by kernel_rfl)) ?_
             refine take_ (i := 1) (N := some 28) (v := ?_) (a' := ?_) m4_3 rfl rfl (take_ofW HT_.out HW_.out (by kernel_rfl)) (fun _ _ _ h => h) (Or.inl ⟨by rfl, ?_⟩) hHeld ?_ ?_
             rotate_left
             ·rintro w' ⟨s0, s1, s2, s3, s4, s5, s6, s7, s8, s9, s10, s11, s12, s13, s14, s15, s16, s17, s18, s19, s20, s21, s22, s23, s24, s25, s26⟩
              go_simp
              with_reducible rfl
             rotate_left
             ·simp only [Act.put, List.setIfInBounds_toArray, List.set_cons_zero, List.set_cons_succ, i64_w, i32_w]
              rfl
             refine p4_ 3 (some 30) m4_4 (any_of HT_.out (by kernel_rfl)) ?_
             refine take_ (i := 4) (N := some 31) (v := ?_) (a' := ?_) m4_5 rfl rfl (take_ofW HT_.out HW_.out (by kernel_rfl)) (fun _ _ _ h => h) (Or.inl ⟨by rfl, ?_⟩) hHeld ?_ ?_
             rotate_left
             ·rintro w' ⟨s0, s1, s2, s3, s4, s5, s6, s7, s8, s9, s10, s11, s12, s13, s14, s15, s16, s17, s18, s19, s20, s21, s22, s23, s24, s25, s26⟩
              go_simp
              with_reducible rfl
             rotate_left
             ·simp only [Act.put, List.setIfInBounds_toArray, List.set_cons_zero, List.set_cons_succ, i64_w, i32_w]
              rfl
             refine one_ (i := 5) (N := some 32) m4_6 rfl rfl (one_of HT_.out (by kernel_rfl)) (by decide) (fun K hK => ?_)
             refine goes_ Try.func43 (by kernel_rfl) rfl #[.agg #[.int .i64 ((rd_T64 l0_2 x3_2).f0), .int .i64 ((rd_T64 l0_2 x3_2).f1.f0), .int .i64 ((rd_T64 l0_2 x3_2).f1.f1), .int .i64 ((rd_T64 l0_2 x3_2).f1.f2), .int .i64 ((rd_T64 l0_2 x3_2).f1.f3), .string ((rd_T64 l0_2 x3_2).f1.f4)]] (by rfl) rfl rfl (by (try simp only [List.map_toArray, List.map_cons, List.map_nil]); first | done | rfl | (simp only [List.length_drop, List.length_take]; rfl)) ?_
             with_reducible refine (spec_l6Entry.calls k2 ((rd_T64 l0_2 x3_2).f0) ((rd_T64 l0_2 x3_2).f1.f0) ((rd_T64 l0_2 x3_2).f1.f1) ((rd_T64 l0_2 x3_2).f1.f2) ((rd_T64 l0_2 x3_2).f1.f3) ((rd_T64 l0_2 x3_2).f1.f4) true _ A15.out).mono ?_
             rintro e w25 ⟨rfl, hb⟩
             refine ⟨_, rfl, ?_⟩
             have n0_ := Aside0.mk (blk_below (g := gb123) (o := .cells #[.int .i64 a0_0, .int .i64 a0_1, .slice (some ad126) l0_2.length c0_2] 32 (0, 0)) (by (with_reducible repeat (first | refine blk_drewN ?_ _ | refine blk_drew ?_ | refine blk_alloc ?_ _)); exact BK123.out) hb)
             have n1_ := Aside0.mk (below_step (by repeat (first | (with_reducible first | exact HB.out | apply below_alloc | apply pw_below_drewN | apply below_drew1 | refine below_set ?_ GE123.out) | exact HB.out)) hb)
             clear BK123
             clear HB
             have BK123 := n0_
             have HB := n1_
             clear n0_ n1_
             (try clear hb)
             (try clear hb2)
             (try clear hk)
             (try clear hi)
             refine hK.out _ _ ⟨(blk_cell BK123.out 0).trans rfl, (blk_cell BK123.out 1).trans rfl, (blk_cell BK123.out 2).trans rfl, ((HB.out.cell (World.block_lt_of_cell? w _ hw126_0)).trans hw126_0), ((HB.out.cell (World.block_lt_of_cell? w _ hw126_1)).trans hw126_1), ((HB.out.cell (World.block_lt_of_cell? w _ hw126_2)).trans hw126_2), ((HB.out.cell (World.block_lt_of_cell? w _ hw126_3)).trans hw126_3), ((HB.out.cell (World.block_lt_of_cell? w _ hw126_4)).trans hw126_4), ((HB.out.cell (World.block_lt_of_cell? w _ hw126_5)).trans hw126_5), ((HB.out.cell (World.block_lt_of_cell? w _ hw128_0)).trans hw128_0), ((HB.out.cell (World.block_lt_of_cell? w _ hw128_1)).trans hw128_1), ((HB.out.cell (World.block_lt_of_cell? w _ hw128_2)).trans hw128_2), ((HB.out.cell (World.block_lt_of_cell? w _ hw128_3)).trans hw128_3), ((HB.out.cell (World.block_lt_of_cell? w _ hw128_4)).trans hw128_4), ((HB.out.cell (World.block_lt_of_cell? w _ hw128_5)).trans hw128_5), ((HB.out.cell (World.block_lt_of_cell? w _ hw129_0)).trans hw129_0), ((HB.out.cell (World.block_lt_of_cell? w _ hw129_1)).trans hw129_1), ((HB.out.cell (World.block_lt_of_cell? w _ hw129_2)).trans hw129_2), ((HB.out.cell (World.block_lt_of_cell? w _ hw129_3)).trans hw129_3), ((HB.out.cell (World.block_lt_of_cell? w _ hw129_4)).trans hw129_4), ((HB.out.cell (World.block_lt_of_cell? w _ hw129_5)).trans hw129_5), ((HB.out.cell (World.block_lt_of_cell? w _ hw130_0)).trans hw130_0), ((HB.out.cell (World.block_lt_of_cell? w _ hw130_1)).trans hw130_1), ((HB.out.cell (World.block_lt_of_cell? w _ hw130_2)).trans hw130_2), ((HB.out.cell (World.block_lt_of_cell? w _ hw130_3)).trans hw130_3), ((HB.out.cell (World.block_lt_of_cell? w _ hw130_4)).trans hw130_4), ((HB.out.cell (World.block_lt_of_cell? w _ hw130_5)).trans hw130_5)⟩ (fun hHeld => ?_)
             clear hK K
             refine norm_ (a' := ?_) ?_ ?_
             rotate_left
             ·show Act.put _ (some 32) _ = _
              simp only [Act.put, List.setIfInBounds_toArray, List.set_cons_zero, List.set_cons_succ, i64_w, i32_w]
              rfl
             refine p4_ 6 (some 33) m4_7 (any_of HT_.out (by kernel_rfl)) ?_
             refine p4_ 7 (some 34) m4_8 (any_of HT_.out (by kernel_rfl)) ?_
             refine p4_ 8 (some 35) m4_9 (any_of HT_.out (by kernel_rfl)) ?_
             refine p4_ 10 (some 37) m4_26 (any_of HT_.out (by kernel_rfl)) ?_
             refine p4_ 14 (some 41) m4_27 (any_of HT_.out (by kernel_rfl)) ?_
             refine take_ (i := 9) (N := some 36) (v := ?_) (a' := ?_) m4_28 rfl rfl (take_ofW HT_.out HW_.out (by kernel_rfl)) (fun _ _ _ h => h) (Or.inl ⟨by rfl, ?_⟩) hHeld ?_ ?_
             rotate_left
             ·rintro w' ⟨s0, s1, s2, s3, s4, s5, s6, s7, s8, s9, s10, s11, s12, s13, s14, s15, s16, s17, s18, s19, s20, s21, s22, s23, s24, s25, s26⟩
              go_simp
              with_reducible rfl
             rotate_left
             ·simp only [Act.put, List.setIfInBounds_toArray, List.set_cons_zero, List.set_cons_succ, i64_w, i32_w]
              rfl
             refine p4_ 11 (some 38) m4_29 (any_of HT_.out (by kernel_rfl)) ?_
             refine p4_ 12 (some 39) m4_30 (any_of HT_.out (by kernel_rfl)) ?_
             refine take_ (i := 13) (N := some 40) (v := ?_) (a' := ?_) m4_10 rfl rfl (take_ofW HT_.out HW_.out (by kernel_rfl)) (fun _ _ _ h => h) (Or.inl ⟨by rfl, ?_⟩) hHeld ?_ ?_
             rotate_left
             ·rintro w' ⟨s0, s1, s2, s3, s4, s5, s6, s7, s8, s9, s10, s11, s12, s13, s14, s15, s16, s17, s18, s19, s20, s21, s22, s23, s24, s25, s26⟩
              go_simp
              with_reducible rfl
             rotate_left
             ·simp only [Act.put, List.setIfInBounds_toArray, List.set_cons_zero, List.set_cons_succ, i64_w, i32_w]
              rfl
             refine take_ (i := 15) (N := some 42) (v := ?_) (a' := ?_) m4_11 rfl rfl (take_ofW HT_.out HW_.out (by kernel_rfl)) (fun _ _ _ h => h) (Or.inl ⟨by rfl, ?_⟩) hHeld ?_ ?_
             rotate_left
             ·rintro w' ⟨s0, s1, s2, s3, s4, s5, s6, s7, s8, s9, s10, s11, s12, s13, s14, s15, s16, s17, s18, s19, s20, s21, s22, s23, s24, s25, s26⟩
              go_simp
              with_reducible rfl
             rotate_left
             ·simp only [Act.put, List.setIfInBounds_toArray, List.set_cons_zero, List.set_cons_succ, i64_w, i32_w]
              rfl
             refine p4_ 16 (some 43) m4_12 (any_of HT_.out (by kernel_rfl)) ?_
             refine p4_ 17 (some 44) m4_13 (any_of HT_.out (by kernel_rfl)) ?_
             refine p4_ 18 (some 45) m4_14 (any_of HT_.out (by kernel_rfl)) ?_
             refine p4_ 19 (some 46) m4_15 (any_of HT_.out (by kernel_rfl)) ?_
             refine p4_ 20 (some 47) m4_16 (any_of HT_.out (by kernel_rfl)) ?_
             refine p4_ 21 (some 48) m4_17 (any_of HT_.out (by kernel_rfl)) ?_
             refine p4_ 22 (some 49) m4_18 (any_of HT_.out (by kernel_rfl)) ?_
             refine p4_ 24 (some 51) #[true, true, true, true, true, true, true, true, true, true, true, true, true, true, true, true, true, true, true, true, true, true, true, false, true, false, false, false, false, false, false, false, false, false, false, false, false, false] (any_of HT_.out (by kernel_rfl)) ?_
             refine p4_ 28 (some 55) #[true, true, true, true, true, true, true, true, true, true, true, true, true, true, true, true, true, true, true, true, true, true, true, false, true, false, false, false, true, false, false, false, false, false, false, false, false, false] (any_of HT_.out (by kernel_rfl)) ?_
             refine p4_ 30 (some 57) #[true, true, true, true, true, true, true, true, true, true, true, true, true, true, true, true, true, true, true, true, true, true, true, false, true, false, false, false, true, false, true, false, false, false, false, false, false, false] (any_of HT_.out (by kernel_rfl)) ?_
             refine p4_ 31 (some 58) #[true, true, true, true, true, true, true, true, true, true, true, true, true, true, true, true, true, true, true, true, true, true, true, false, true, false, false, false, true, false, true, true, false, false, false, false, false, false] (any_of HT_.out (by kernel_rfl)) ?_
             refine take_ (i := 23) (N := some 50) (v := ?_) (a' := ?_) #[true, true, true, true, true, true, true, true, true, true, true, true, true, true, true, true, true, true, true, true, true, true, true, true, true, false, false, false, true, false, true, true, false, false, false, false, false, false] rfl rfl (take_ofW HT_.out HW_.out (by kernel_rfl)) (fun _ _ _ h => h) (Or.inl ⟨by rfl, ?_⟩) hHeld ?_ ?_
             rotate_left
             ·rintro w' ⟨s0, s1, s2, s3, s4, s5, s6, s7, s8, s9, s10, s11, s12, s13, s14, s15, s16, s17, s18, s19, s20, s21, s22, s23, s24, s25, s26⟩
              go_simp
              with_reducible rfl
             rotate_left
             ·simp only [Act.put, List.setIfInBounds_toArray, List.set_cons_zero, List.set_cons_succ, i64_w, i32_w]
              rfl
             refine p4_ 25 (some 52) #[true, true, true, true, true, true, true, true, true, true, true, true, true, true, true, true, true, true, true, true, true, true, true, true, true, true, false, false, true, false, true, true, false, false, false, false, false, false] (any_of HT_.out (by kernel_rfl)) ?_
             refine p4_ 26 (some 53) #[true, true, true, true, true, true, true, true, true, true, true, true, true, true, true, true, true, true, true, true, true, true, true, true, true, true, true, false, true, false, true, true, false, false, false, false, false, false] (any_of HT_.out (by kernel_rfl)) ?_
             refine take_ (i := 27) (N := some 54) (v := ?_) (a' := ?_) #[true, true, true, true, true, true, true, true, true, true, true, true, true, true, true, true, true, true, true, true, true, true, true, true, true, true, true, true, true, false, true, true, false, false, false, false, false, false] rfl rfl (take_ofW HT_.out HW_.out (by kernel_rfl)) (fun _ _ _ h => h) (Or.inl ⟨by rfl, ?_⟩) hHeld ?_ ?_
             rotate_left
             ·rintro w' ⟨s0, s1, s2, s3, s4, s5, s6, s7, s8, s9, s10, s11, s12, s13, s14, s15, s16, s17, s18, s19, s20, s21, s22, s23, s24, s25, s26⟩
              go_simp
              with_reducible rfl
             rotate_left
             ·simp only [Act.put, List.setIfInBounds_toArray, List.set_cons_zero, List.set_cons_succ, i64_w, i32_w]
              rfl
             refine take_ (i := 29) (N := some 56) (v := ?_) (a' := ?_) m4_19 rfl rfl (take_ofW HT_.out HW_.out (by kernel_rfl)) (fun _ _ _ h => h) (Or.inl ⟨by rfl, ?_⟩) hHeld ?_ ?_
             rotate_left
             ·rintro w' ⟨s0, s1, s2, s3, s4, s5, s6, s7, s8, s9, s10, s11, s12, s13, s14, s15, s16, s17, s18, s19, s20, s21, s22, s23, s24, s25, s26⟩
              go_simp
              with_reducible rfl
             rotate_left
             ·simp only [Act.put, List.setIfInBounds_toArray, List.set_cons_zero, List.set_cons_succ, i64_w, i32_w]
              rfl
             refine p4_ 32 (some 59) m4_20 (any_of HT_.out (by kernel_rfl)) ?_
             refine p4_ 33 (some 60) m4_21 (any_of HT_.out (by kernel_rfl)) ?_
             refine take_ (i := 34) (N := some 61) (v := ?_) (a' := ?_) m4_22 rfl rfl (take_ofW HT_.out HW_.out (by kernel_rfl)) (fun _ _ _ h => h) (Or.inl ⟨by rfl, ?_⟩) hHeld ?_ ?_
             rotate_left
             ·rintro w' ⟨s0, s1, s2, s3, s4, s5, s6, s7, s8, s9, s10, s11, s12, s13, s14, s15, s16, s17, s18, s19, s20, s21, s22, s23, s24, s25, s26⟩
              go_simp
              with_reducible rfl
             rotate_left
             ·simp only [Act.put, List.setIfInBounds_toArray, List.set_cons_zero, List.set_cons_succ, i64_w, i32_w]
              rfl
             refine p4_ 35 (some 62) m4_23 (any_of HT_.out (by kernel_rfl)) ?_
             refine p4_ 36 (some 63) m4_24 (any_of HT_.out (by kernel_rfl)) ?_
             refine p4_ 37 (some 64) m4_25 (any_of HT_.out (by kernel_rfl)) ?_
             refine done_ (done_of HT_.out (by kernel_rfl)) ?_
             go_upto_if 64 with (fail)
             by_cases c26 : ((rd_T64 l0_2 x3_2).f0) < ((rd_T64 l0_2 (ji21)).f0)
             ·rw [if_pos c26] at H
              have c26b0 : decide (((rd_T64 l0_2 x3_2).f0) < ((rd_T64 l0_2 (ji21)).f0)) = true := decide_eq_true c26
              clear c26
              (first | rw [c26b0] | (simp only [i64_w, i32_w]; rw [c26b0]) | skip)
              obtain rfl := Option.some.inj H
              go_wp2
              go_ret
              exact ⟨by first | rfl | (simp [errW_none, errW_some] <;> rfl) | (simp only [← hji21]; first | rfl | (simp [errW_none, errW_some] <;> rfl)) | (simp [*, errW_none, errW_some] <;> rfl), by repeat (first | (with_reducible first | exact HB.out | apply below_alloc | apply pw_below_drewN | apply below_drew1 | refine below_set ?_ GE123.out) | exact HB.out)⟩
             ·rw [if_neg c26] at H
              have c26b0 : decide (((rd_T64 l0_2 x3_2).f0) < ((rd_T64 l0_2 (ji21)).f0)) = false := decide_eq_false c26
              clear c26
              (first | rw [c26b0] | (simp only [i64_w, i32_w]; rw [c26b0]) | skip)
              have H' := Aside0.mk H
              clear H
              go_wp2
              go_roundg k2
              case measure => have := HJ1.out; have := HK2.out; omega
              case rel => exact ⟨(wrap64 (x3_2 + 1)), (by first | rfl | (simp; done) | (simp [*]; done)), H', ⟨by have := HJ1.out; have := HK2.out; omega⟩, ⟨by (with_reducible repeat (first | refine blk_drewN ?_ _ | refine blk_drew ?_ | refine blk_alloc ?_ _)); exact BK123.out⟩, ⟨by repeat (first | (with_reducible first | exact HB.out | apply below_alloc | apply pw_below_drewN | apply below_drew1 | refine below_set ?_ GE123.out) | exact HB.out)⟩⟩
            ·rw [if_neg c23] at H
             exact absurd H (by simp)
           ·rw [if_neg c22] at H
            exact absurd H (by simp)
          ·rw [if_neg c20] at H
           have c20b0 : decide (0 < x3_2) = false := decide_eq_false c20
           clear c20
           have H' := Aside0.mk H
           clear H
           try go_wp2
           have n0_ := Aside0.mk (blk_drew BK123.out)
           have n1_ := Aside0.mk (below_drew1 HB.out)
           clear BK123
           clear HB
           have BK123 := n0_
           have HB := n1_
           clear n0_ n1_
           have p126 : 0 ≤ (x3_2 : Int) := of_decide_eq_true (by first | (with_reducible assumption) | assumption)
           have q126 : x3_2 < (l0_2.length : Int) := of_decide_eq_true (by first | (with_reducible assumption) | assumption)
           obtain ⟨ad126, e126, hx126_0, hx126_1, hx126_2, hx126_3, hx126_4, hx126_5⟩ := at_T64 HR0_2.out x3_2 p126 q126
           have hw126_5 := hx126_5
           have hw126_4 := hx126_4
           have hw126_3 := hx126_3
           have hw126_2 := hx126_2
           have hw126_1 := hx126_1
           have hw126_0 := hx126_0
           cases e126
           replace hx126_0 := (HB.out.cell (World.block_lt_of_cell? w _ hx126_0)).trans hx126_0
           replace hx126_1 := (HB.out.cell (World.block_lt_of_cell? w _ hx126_1)).trans hx126_1
           replace hx126_2 := (HB.out.cell (World.block_lt_of_cell? w _ hx126_2)).trans hx126_2
           replace hx126_3 := (HB.out.cell (World.block_lt_of_cell? w _ hx126_3)).trans hx126_3
           replace hx126_4 := (HB.out.cell (World.block_lt_of_cell? w _ hx126_4)).trans hx126_4
           replace hx126_5 := (HB.out.cell (World.block_lt_of_cell? w _ hx126_5)).trans hx126_5
           replace p126 := eq_true p126
           replace q126 := eq_true q126
           have p128 : 0 ≤ (x3_2 : Int) := of_decide_eq_true (by first | (with_reducible assumption) | assumption)
           have q128 : x3_2 < (l0_2.length : Int) := of_decide_eq_true (by first | (with_reducible assumption) | assumption)
           obtain ⟨ad128, e128, hx128_0, hx128_1, hx128_2, hx128_3, hx128_4, hx128_5⟩ := at_T64 HR0_2.out x3_2 p128 q128
           have hw128_5 := hx128_5
           have hw128_4 := hx128_4
           have hw128_3 := hx128_3
           have hw128_2 := hx128_2
           have hw128_1 := hx128_1
           have hw128_0 := hx128_0
           obtain rfl : ad126 = ad128 := (by injection e128)
           replace hx128_0 := (HB.out.cell (World.block_lt_of_cell? w _ hx128_0)).trans hx128_0
           replace hx128_1 := (HB.out.cell (World.block_lt_of_cell? w _ hx128_1)).trans hx128_1
           replace hx128_2 := (HB.out.cell (World.block_lt_of_cell? w _ hx128_2)).trans hx128_2
           replace hx128_3 := (HB.out.cell (World.block_lt_of_cell? w _ hx128_3)).trans hx128_3
           replace hx128_4 := (HB.out.cell (World.block_lt_of_cell? w _ hx128_4)).trans hx128_4
           replace hx128_5 := (HB.out.cell (World.block_lt_of_cell? w _ hx128_5)).trans hx128_5
           replace p128 := eq_true p128
           replace q128 := eq_true q128
           refine start_ (n := 38) (S := fun w' => w'.cell? ⟨gb123, 0, none⟩ = some (.int .i64 a0_0) ∧ w'.cell? ⟨gb123, 1, none⟩ = some (.int .i64 a0_1) ∧ w'.cell? ⟨gb123, 2, none⟩ = some (.slice (some ad126) l0_2.length c0_2) ∧ w'.cell? (ad126.add ((x3_2).toNat * 6)) = some (.int .i64 ((rd_T64 l0_2 x3_2).f0)) ∧ w'.cell? ⟨(ad126.add ((x3_2).toNat * 6)).block, (ad126.add ((x3_2).toNat * 6)).off + 1, none⟩ = some (.int .i64 ((rd_T64 l0_2 x3_2).f1.f0)) ∧ w'.cell? ⟨(ad126.add ((x3_2).toNat * 6)).block, (ad126.add ((x3_2).toNat * 6)).off + 2, none⟩ = some (.int .i64 ((rd_T64 l0_2 x3_2).f1.f1)) ∧ w'.cell? ⟨(ad126.add ((x3_2).toNat * 6)).block, (ad126.add ((x3_2).toNat * 6)).off + 3, none⟩ = some (.int .i64 ((rd_T64 l0_2 x3_2).f1.f2)) ∧ w'.cell? ⟨(ad126.add ((x3_2).toNat * 6)).block, (ad126.add ((x3_2).toNat * 6)).off + 4, none⟩ = some (.int .i64 ((rd_T64 l0_2 x3_2).f1.f3)) ∧ w'.cell? ⟨(ad126.add ((x3_2).toNat * 6)).block, (ad126.add ((x3_2).toNat * 6)).off + 5, none⟩ = some (.string ((rd_T64 l0_2 x3_2).f1.f4)) ∧ w'.cell? (ad126.add ((x3_2).toNat * 6)) = some (.int .i64 ((rd_T64 l0_2 x3_2).f0)) ∧ w'.cell? ⟨(ad126.add ((x3_2).toNat * 6)).block, (ad126.add ((x3_2).toNat * 6)).off + 1, none⟩ = some (.int .i64 ((rd_T64 l0_2 x3_2).f1.f0)) ∧ w'.cell? ⟨(ad126.add ((x3_2).toNat * 6)).block, (ad126.add ((x3_2).toNat * 6)).off + 2, none⟩ = some (.int .i64 ((rd_T64 l0_2 x3_2).f1.f1)) ∧ w'.cell? ⟨(ad126.add ((x3_2).toNat * 6)).block, (ad126.add ((x3_2).toNat * 6)).off + 3, none⟩ = some (.int .i64 ((rd_T64 l0_2 x3_2).f1.f2)) ∧ w'.cell? ⟨(ad126.add ((x3_2).toNat * 6)).block, (ad126.add ((x3_2).toNat * 6)).off + 4, none⟩ = some (.int .i64 ((rd_T64 l0_2 x3_2).f1.f3)) ∧ w'.cell? ⟨(ad126.add ((x3_2).toNat * 6)).block, (ad126.add ((x3_2).toNat * 6)).off + 5, none⟩ = some (.string ((rd_T64 l0_2 x3_2).f1.f4))) (ds := []) m4_0 (by kernel_rfl) rfl rfl ⟨(blk_cell BK123.out 0).trans rfl, (blk_cell BK123.out 1).trans rfl, (blk_cell BK123.out 2).trans rfl, ((HB.out.cell (World.block_lt_of_cell? w _ hw126_0)).trans hw126_0), ((HB.out.cell (World.block_lt_of_cell? w _ hw126_1)).trans hw126_1), ((HB.out.cell (World.block_lt_of_cell? w _ hw126_2)).trans hw126_2), ((HB.out.cell (World.block_lt_of_cell? w _ hw126_3)).trans hw126_3), ((HB.out.cell (World.block_lt_of_cell? w _ hw126_4)).trans hw126_4), ((HB.out.cell (World.block_lt_of_cell? w _ hw126_5)).trans hw126_5), ((HB.out.cell (World.block_lt_of_cell? w _ hw128_0)).trans hw128_0), ((HB.out.cell (World.block_lt_of_cell? w _ hw128_1)).trans hw128_1), ((HB.out.cell (World.block_lt_of_cell? w _ hw128_2)).trans hw128_2), ((HB.out.cell (World.block_lt_of_cell? w _ hw128_3)).trans hw128_3), ((HB.out.cell (World.block_lt_of_cell? w _ hw128_4)).trans hw128_4), ((HB.out.cell (World.block_lt_of_cell? w _ hw128_5)).trans hw128_5)⟩ (fun hHeld => ?_); refine with_tabW spec_HardOk.tab6 spec_HardOk.bits6 (fun HT_ HW_ => ?_)
           generalize wr.drew = w27 at BK123 HB hx126_0 hx126_1 hx126_2 hx126_3 hx126_4 hx126_5 hx128_0 hx128_1 hx128_2 hx128_3 hx128_4 hx128_5 hHeld ⊢
           refine p4_ 0 (some 27) m4_1 (any_of HT_.out (by kernel_rfl)) ?_
           refine p4_ 2 (some 29) m4_2 (any_of HT_.out (by kernel_rfl)) ?_
           refine take_ (i := 1) (N := some 28) (v := ?_) (a' := ?_) m4_3 rfl rfl (take_ofW HT_.out HW_.out (by kernel_rfl)) (fun _ _ _ h => h) (Or.inl ⟨by rfl, ?_⟩) hHeld ?_ ?_
           rotate_left
           ·rintro w' ⟨s0, s1, s2, s3, s4, s5, s6, s7, s8, s9, s10, s11, s12, s13, s14⟩
            go_simp
            with_reducible rfl
           rotate_left
           ·simp only [Act.put, List.setIfInBounds_toArray, List.set_cons_zero, List.set_cons_succ, i64_w, i32_w]
            rfl
           refine p4_ 3 (some 30) m4_4 (any_of HT_.out (by kernel_rfl)) ?_
           refine take_ (i := 4) (N := some 31) (v := ?_) (a' := ?_) m4_5 rfl rfl (take_ofW HT_.out HW_.out (by kernel_rfl)) (fun _ _ _ h => h) (Or.inl ⟨by rfl, ?_⟩) hHeld ?_ ?_
           rotate_left
           ·rintro w' ⟨s0, s1, s2, s3, s4, s5, s6, s7, s8, s9, s10, s11, s12, s13, s14⟩
            go_simp
            with_reducible rfl
           rotate_left
           ·simp only [Act.put, List.setIfInBounds_toArray, List.set_cons_zero, List.set_cons_succ, i64_w, i32_w]
            rfl
           refine one_ (i := 5) (N := some 32) m4_6 rfl rfl (one_of HT_.out (by kernel_rfl)) (by decide) (fun K hK => ?_)
           refine goes_ Try.func43 (by kernel_rfl) rfl #[.agg #[.int .i64 ((rd_T64 l0_2 x3_2).f0), .int .i64 ((rd_T64 l0_2 x3_2).f1.f0), .int .i64 ((rd_T64 l0_2 x3_2).f1.f1), .int .i64 ((rd_T64 l0_2 x3_2).f1.f2), .int .i64 ((rd_T64 l0_2 x3_2).f1.f3), .string ((rd_T64 l0_2 x3_2).f1.f4)]] (by rfl) rfl rfl (by (try simp only [List.map_toArray, List.map_cons, List.map_nil]); first | done | rfl | (simp only [List.length_drop, List.length_take]; rfl)) ?_
           with_reducible refine (spec_l6Entry.calls k2 ((rd_T64 l0_2 x3_2).f0) ((rd_T64 l0_2 x3_2).f1.f0) ((rd_T64 l0_2 x3_2).f1.f1) ((rd_T64 l0_2 x3_2).f1.f2) ((rd_T64 l0_2 x3_2).f1.f3) ((rd_T64 l0_2 x3_2).f1.f4) true _ A15.out).mono ?_
           rintro e w28 ⟨rfl, hb⟩
           refine ⟨_, rfl, ?_⟩
           have n0_ := Aside0.mk (blk_below (g := gb123) (o := .cells #[.int .i64 a0_0, .int .i64 a0_1, .slice (some ad126) l0_2.length c0_2] 32 (0, 0)) (by (with_reducible repeat (first | refine blk_drewN ?_ _ | refine blk_drew ?_ | refine blk_alloc ?_ _)); exact BK123.out) hb)
           have n1_ := Aside0.mk (below_step (by repeat (first | (with_reducible first | exact HB.out | apply below_alloc | apply pw_below_drewN | apply below_drew1 | refine below_set ?_ GE123.out) | exact HB.out)) hb)
           clear BK123
           clear HB
           have BK123 := n0_
           have HB := n1_
           clear n0_ n1_
           (try clear hb)
           (try clear hb2)
           (try clear hk)
           (try clear hi)
           refine hK.out _ _ ⟨(blk_cell BK123.out 0).trans rfl, (blk_cell BK123.out 1).trans rfl, (blk_cell BK123.out 2).trans rfl, ((HB.out.cell (World.block_lt_of_cell? w _ hw126_0)).trans hw126_0), ((HB.out.cell (World.block_lt_of_cell? w _ hw126_1)).trans hw126_1), ((HB.out.cell (World.block_lt_of_cell? w _ hw126_2)).trans hw126_2), ((HB.out.cell (World.block_lt_of_cell? w _ hw126_3)).trans hw126_3), ((HB.out.cell (World.block_lt_of_cell? w _ hw126_4)).trans hw126_4), ((HB.out.cell (World.block_lt_of_cell? w _ hw126_5)).trans hw126_5), ((HB.out.cell (World.block_lt_of_cell? w _ hw128_0)).trans hw128_0), ((HB.out.cell (World.block_lt_of_cell? w _ hw128_1)).trans hw128_1), ((HB.out.cell (World.block_lt_of_cell? w _ hw128_2)).trans hw128_2), ((HB.out.cell (World.block_lt_of_cell? w _ hw128_3)).trans hw128_3), ((HB.out.cell (World.block_lt_of_cell? w _ hw128_4)).trans hw128_4), ((HB.out.cell (World.block_lt_of_cell? w _ hw128_5)).trans hw128_5)⟩ (fun hHeld => ?_)
           clear hK K
           refine norm_ (a' := ?_) ?_ ?_
           rotate_left
           ·show Act.put _ (some 32) _ = _
            simp only [Act.put, List.setIfInBounds_toArray, List.set_cons_zero, List.set_cons_succ, i64_w, i32_w]
            rfl
           refine p4_ 6 (some 33) m4_7 (any_of HT_.out (by kernel_rfl)) ?_
           refine p4_ 7 (some 34) m4_8 (any_of HT_.out (by kernel_rfl)) ?_
           refine p4_ 8 (some 35) m4_9 (any_of HT_.out (by kernel_rfl)) ?_
           refine p4_ 10 (some 37) m4_26 (any_of HT_.out (by kernel_rfl)) ?_
           refine p4_ 14 (some 41) m4_27 (any_of HT_.out (by kernel_rfl)) ?_
           refine take_ (i := 9) (N := some 36) (v := ?_) (a' := ?_) m4_28 rfl rfl (take_ofW HT_.out HW_.out (by kernel_rfl)) (fun _ _ _ h => h) (Or.inl ⟨by rfl, ?_⟩) hHeld ?_ ?_
           rotate_left
           ·rintro w' ⟨s0, s1, s2, s3, s4, s5, s6, s7, s8, s9, s10, s11, s12, s13, s14⟩
            go_simp
            with_reducible rfl
           rotate_left
           ·simp only [Act.put, List.setIfInBounds_toArray, List.set_cons_zero, List.set_cons_succ, i64_w, i32_w]
            rfl
           refine p4_ 11 (some 38) m4_29 (any_of HT_.out (by kernel_rfl)) ?_
           refine p4_ 12 (some 39) m4_30 (any_of HT_.out (by kernel_rfl)) ?_
           refine take_ (i := 13) (N := some 40) (v := ?_) (a' := ?_) m4_10 rfl rfl (take_ofW HT_.out HW_.out (by kernel_rfl)) (fun _ _ _ h => h) (Or.inl ⟨by rfl, ?_⟩) hHeld ?_ ?_
           rotate_left
           ·rintro w' ⟨s0, s1, s2, s3, s4, s5, s6, s7, s8, s9, s10, s11, s12, s13, s14⟩
            go_simp
            with_reducible rfl
           rotate_left
           ·simp only [Act.put, List.setIfInBounds_toArray, List.set_cons_zero, List.set_cons_succ, i64_w, i32_w]
            rfl
           refine take_ (i := 15) (N := some 42) (v := ?_) (a' := ?_) m4_11 rfl rfl (take_ofW HT_.out HW_.out (by kernel_rfl)) (fun _ _ _ h => h) (Or.inl ⟨by rfl, ?_⟩) hHeld ?_ ?_
           rotate_left
           ·rintro w' ⟨s0, s1, s2, s3, s4, s5, s6, s7, s8, s9, s10, s11, s12, s13, s14⟩
            go_simp
            with_reducible rfl
           rotate_left
           ·simp only [Act.put, List.setIfInBounds_toArray, List.set_cons_zero, List.set_cons_succ, i64_w, i32_w]
            rfl
           refine p4_ 16 (some 43) m4_12 (any_of HT_.out (by kernel_rfl)) ?_
           refine p4_ 17 (some 44) m4_13 (any_of HT_.out (by kernel_rfl)) ?_
           refine p4_ 18 (some 45) m4_14 (any_of HT_.out (by kernel_rfl)) ?_
           refine p4_ 19 (some 46) m4_15 (any_of HT_.out (by kernel_rfl)) ?_
           refine p4_ 20 (some 47) m4_16 (any_of HT_.out (by kernel_rfl)) ?_
           refine p4_ 21 (some 48) m4_17 (any_of HT_.out (by kernel_rfl)) ?_
           refine u4_ 22 (some 49) m4_18 (any_of HT_.out (by kernel_rfl)) ?_
           refine u4_ 23 (some 50) m4_31 (any_of HT_.out (by kernel_rfl)) ?_
           refine u4_ 24 (some 51) m4_32 (any_of HT_.out (by kernel_rfl)) ?_
           refine u4_ 25 (some 52) m4_33 (any_of HT_.out (by kernel_rfl)) ?_
           refine u4_ 26 (some 53) m4_34 (any_of HT_.out (by kernel_rfl)) ?_
           refine u4_ 27 (some 54) m4_35 (any_of HT_.out (by kernel_rfl)) ?_
           refine u4_ 28 (some 55) m4_36 (any_of HT_.out (by kernel_rfl)) ?_
           refine u4_ 29 (some 56) m4_37 (any_of HT_.out (by kernel_rfl)) ?_
           refine u4_ 30 (some 57) m4_38 (any_of HT_.out (by kernel_rfl)) ?_
           refine u4_ 31 (some 58) m4_19 (any_of HT_.out (by kernel_rfl)) ?_
           refine u4_ 32 (some 59) m4_20 (any_of HT_.out (by kernel_rfl)) ?_
           refine u4_ 33 (some 60) m4_21 (any_of HT_.out (by kernel_rfl)) ?_
           refine u4_ 34 (some 61) m4_22 (any_of HT_.out (by kernel_rfl)) ?_
           refine u4_ 35 (some 62) m4_23 (any_of HT_.out (by kernel_rfl)) ?_
           refine p4_ 36 (some 63) m4_24 (any_of HT_.out (by kernel_rfl)) ?_
           refine p4_ 37 (some 64) m4_25 (any_of HT_.out (by kernel_rfl)) ?_
           refine done_ (done_of HT_.out (by kernel_rfl)) ?_
           try go_wp2
           go_roundg k2
           case measure => have := HJ1.out; have := HK2.out; omega
           case rel => exact ⟨(wrap64 (x3_2 + 1)), (by first | rfl | (simp; done) | (simp [*]; done)), H', ⟨by have := HJ1.out; have := HK2.out; omega⟩, ⟨by (with_reducible repeat (first | refine blk_drewN ?_ _ | refine blk_drew ?_ | refine blk_alloc ?_ _)); exact BK123.out⟩, ⟨by repeat (first | (with_reducible first | exact HB.out | apply below_alloc | apply pw_below_drewN | apply below_drew1 | refine below_set ?_ GE123.out) | exact HB.out)⟩⟩
        ·replace c16 := Bool.eq_false_iff.mpr c16
         subst c16
         have H1 : (some false) = some r := by rw [if_neg (show ¬ (false = true) by decide)] at H; exact H
         clear H
         have H := H1
         clear H1
         obtain rfl := Option.some.inj H
         try go_wp2
         have n0_ := Aside0.mk (blk_drew BK123.out)
         have n1_ := Aside0.mk (below_drew1 HB.out)
         clear BK123
         clear HB
         have BK123 := n0_
         have HB := n1_
         clear n0_ n1_
         have p126 : 0 ≤ (x3_2 : Int) := of_decide_eq_true (by first | (with_reducible assumption) | assumption)
         have q126 : x3_2 < (l0_2.length : Int) := of_decide_eq_true (by first | (with_reducible assumption) | assumption)
         obtain ⟨ad126, e126, hx126_0, hx126_1, hx126_2, hx126_3, hx126_4, hx126_5⟩ := at_T64 HR0_2.out x3_2 p126 q126
         have hw126_5 := hx126_5
         have hw126_4 := hx126_4
         have hw126_3 := hx126_3
         have hw126_2 := hx126_2
         have hw126_1 := hx126_1
         have hw126_0 := hx126_0
         cases e126
         replace hx126_0 := (HB.out.cell (World.block_lt_of_cell? w _ hx126_0)).trans hx126_0
         replace hx126_1 := (HB.out.cell (World.block_lt_of_cell? w _ hx126_1)).trans hx126_1
         replace hx126_2 := (HB.out.cell (World.block_lt_of_cell? w _ hx126_2)).trans hx126_2
         replace hx126_3 := (HB.out.cell (World.block_lt_of_cell? w _ hx126_3)).trans hx126_3
         replace hx126_4 := (HB.out.cell (World.block_lt_of_cell? w _ hx126_4)).trans hx126_4
         replace hx126_5 := (HB.out.cell (World.block_lt_of_cell? w _ hx126_5)).trans hx126_5
         replace p126 := eq_true p126
         replace q126 := eq_true q126
         refine start_ (n := 38) (S := fun w' => w'.cell? ⟨gb123, 0, none⟩ = some (.int .i64 a0_0) ∧ w'.cell? ⟨gb123, 1, none⟩ = some (.int .i64 a0_1) ∧ w'.cell? ⟨gb123, 2, none⟩ = some (.slice (some ad126) l0_2.length c0_2) ∧ w'.cell? (ad126.add ((x3_2).toNat * 6)) = some (.int .i64 ((rd_T64 l0_2 x3_2).f0)) ∧ w'.cell? ⟨(ad126.add ((x3_2).toNat * 6)).block, (ad126.add ((x3_2).toNat * 6)).off + 1, none⟩ = some (.int .i64 ((rd_T64 l0_2 x3_2).f1.f0)) ∧ w'.cell? ⟨(ad126.add ((x3_2).toNat * 6)).block, (ad126.add ((x3_2).toNat * 6)).off + 2, none⟩ = some (.int .i64 ((rd_T64 l0_2 x3_2).f1.f1)) ∧ w'.cell? ⟨(ad126.add ((x3_2).toNat * 6)).block, (ad126.add ((x3_2).toNat * 6)).off + 3, none⟩ = some (.int .i64 ((rd_T64 l0_2 x3_2).f1.f2)) ∧ w'.cell? ⟨(ad126.add ((x3_2).toNat * 6)).block, (ad126.add ((x3_2).toNat * 6)).off + 4, none⟩ = some (.int .i64 ((rd_T64 l0_2 x3_2).f1.f3)) ∧ w'.cell? ⟨(ad126.add ((x3_2).toNat * 6)).block, (ad126.add ((x3_2).toNat * 6)).off + 5, none⟩ = some (.string ((rd_T64 l0_2 x3_2).f1.f4))) (ds := []) m4_0 (by kernel_rfl) rfl rfl ⟨(blk_cell BK123.out 0).trans rfl, (blk_cell BK123.out 1).trans rfl, (blk_cell BK123.out 2).trans rfl, ((HB.out.cell (World.block_lt_of_cell? w _ hw126_0)).trans hw126_0), ((HB.out.cell (World.block_lt_of_cell? w _ hw126_1)).trans hw126_1), ((HB.out.cell (World.block_lt_of_cell? w _ hw126_2)).trans hw126_2), ((HB.out.cell (World.block_lt_of_cell? w _ hw126_3)).trans hw126_3), ((HB.out.cell (World.block_lt_of_cell? w _ hw126_4)).trans hw126_4), ((HB.out.cell (World.block_lt_of_cell? w _ hw126_5)).trans hw126_5)⟩ (fun hHeld => ?_); refine with_tabW spec_HardOk.tab6 spec_HardOk.bits6 (fun HT_ HW_ => ?_)
         generalize wr.drew = w29 at BK123 HB hx126_0 hx126_1 hx126_2 hx126_3 hx126_4 hx126_5 hHeld ⊢
         refine p4_ 0 (some 27) m4_1 (any_of HT_.out (by kernel_rfl)) ?_
         refine p4_ 2 (some 29) m4_2 (any_of HT_.out (by kernel_rfl)) ?_
         refine take_ (i := 1) (N := some 28) (v := ?_) (a' := ?_) m4_3 rfl rfl (take_ofW HT_.out HW_.out (by kernel_rfl)) (fun _ _ _ h => h) (Or.inl ⟨by rfl, ?_⟩) hHeld ?_ ?_
         rotate_left
         ·rintro w' ⟨s0, s1, s2, s3, s4, s5, s6, s7, s8⟩
          go_simp
          with_reducible rfl
         rotate_left
         ·simp only [Act.put, List.setIfInBounds_toArray, List.set_cons_zero, List.set_cons_succ, i64_w, i32_w]
          rfl
         refine p4_ 3 (some 30) m4_4 (any_of HT_.out (by kernel_rfl)) ?_
         refine take_ (i := 4) (N := some 31) (v := ?_) (a' := ?_) m4_5 rfl rfl (take_ofW HT_.out HW_.out (by kernel_rfl)) (fun _ _ _ h => h) (Or.inl ⟨by rfl, ?_⟩) hHeld ?_ ?_
         rotate_left
         ·rintro w' ⟨s0, s1, s2, s3, s4, s5, s6, s7, s8⟩
          go_simp
          with_reducible rfl
         rotate_left
         ·simp only [Act.put, List.setIfInBounds_toArray, List.set_cons_zero, List.set_cons_succ, i64_w, i32_w]
          rfl
         refine one_ (i := 5) (N := some 32) m4_6 rfl rfl (one_of HT_.out (by kernel_rfl)) (by decide) (fun K hK => ?_)
         refine goes_ Try.func43 (by kernel_rfl) rfl #[.agg #[.int .i64 ((rd_T64 l0_2 x3_2).f0), .int .i64 ((rd_T64 l0_2 x3_2).f1.f0), .int .i64 ((rd_T64 l0_2 x3_2).f1.f1), .int .i64 ((rd_T64 l0_2 x3_2).f1.f2), .int .i64 ((rd_T64 l0_2 x3_2).f1.f3), .string ((rd_T64 l0_2 x3_2).f1.f4)]] (by rfl) rfl rfl (by (try simp only [List.map_toArray, List.map_cons, List.map_nil]); first | done | rfl | (simp only [List.length_drop, List.length_take]; rfl)) ?_
         with_reducible refine (spec_l6Entry.calls k2 ((rd_T64 l0_2 x3_2).f0) ((rd_T64 l0_2 x3_2).f1.f0) ((rd_T64 l0_2 x3_2).f1.f1) ((rd_T64 l0_2 x3_2).f1.f2) ((rd_T64 l0_2 x3_2).f1.f3) ((rd_T64 l0_2 x3_2).f1.f4) false _ A15.out).mono ?_
         rintro e w30 ⟨rfl, hb⟩
         refine ⟨_, rfl, ?_⟩
         have n0_ := Aside0.mk (blk_below (g := gb123) (o := .cells #[.int .i64 a0_0, .int .i64 a0_1, .slice (some ad126) l0_2.length c0_2] 32 (0, 0)) (by (with_reducible repeat (first | refine blk_drewN ?_ _ | refine blk_drew ?_ | refine blk_alloc ?_ _)); exact BK123.out) hb)
         have n1_ := Aside0.mk (below_step (by repeat (first | (with_reducible first | exact HB.out | apply below_alloc | apply pw_below_drewN | apply below_drew1 | refine below_set ?_ GE123.out) | exact HB.out)) hb)
         clear BK123
         clear HB
         have BK123 := n0_
         have HB := n1_
         clear n0_ n1_
         (try clear hb)
         (try clear hb2)
         (try clear hk)
         (try clear hi)
         refine hK.out _ _ ⟨(blk_cell BK123.out 0).trans rfl, (blk_cell BK123.out 1).trans rfl, (blk_cell BK123.out 2).trans rfl, ((HB.out.cell (World.block_lt_of_cell? w _ hw126_0)).trans hw126_0), ((HB.out.cell (World.block_lt_of_cell? w _ hw126_1)).trans hw126_1), ((HB.out.cell (World.block_lt_of_cell? w _ hw126_2)).trans hw126_2), ((HB.out.cell (World.block_lt_of_cell? w _ hw126_3)).trans hw126_3), ((HB.out.cell (World.block_lt_of_cell? w _ hw126_4)).trans hw126_4), ((HB.out.cell (World.block_lt_of_cell? w _ hw126_5)).trans hw126_5)⟩ (fun hHeld => ?_)
         clear hK K
         refine norm_ (a' := ?_) ?_ ?_
         rotate_left
         ·show Act.put _ (some 32) _ = _
          simp only [Act.put, List.setIfInBounds_toArray, List.set_cons_zero, List.set_cons_succ, i64_w, i32_w]
          rfl
         refine p4_ 6 (some 33) m4_7 (any_of HT_.out (by kernel_rfl)) ?_
         refine p4_ 7 (some 34) m4_8 (any_of HT_.out (by kernel_rfl)) ?_
         refine u4_ 8 (some 35) m4_9 (any_of HT_.out (by kernel_rfl)) ?_
         refine u4_ 9 (some 36) #[true, true, true, true, true, true, true, true, true, true, false, false, false, false, false, false, false, false, false, false, false, false, false, false, false, false, false, false, false, false, false, false, false, false, false, false, false, false] (any_of HT_.out (by kernel_rfl)) ?_
         refine u4_ 10 (some 37) #[true, true, true, true, true, true, true, true, true, true, true, false, false, false, false, false, false, false, false, false, false, false, false, false, false, false, false, false, false, false, false, false, false, false, false, false, false, false] (any_of HT_.out (by kernel_rfl)) ?_
         refine u4_ 11 (some 38) #[true, true, true, true, true, true, true, true, true, true, true, true, false, false, false, false, false, false, false, false, false, false, false, false, false, false, false, false, false, false, false, false, false, false, false, false, false, false] (any_of HT_.out (by kernel_rfl)) ?_
         refine u4_ 12 (some 39) #[true, true, true, true, true, true, true, true, true, true, true, true, true, false, false, false, false, false, false, false, false, false, false, false, false, false, false, false, false, false, false, false, false, false, false, false, false, false] (any_of HT_.out (by kernel_rfl)) ?_
         refine u4_ 13 (some 40) #[true, true, true, true, true, true, true, true, true, true, true, true, true, true, false, false, false, false, false, false, false, false, false, false, false, false, false, false, false, false, false, false, false, false, false, false, false, false] (any_of HT_.out (by kernel_rfl)) ?_
         refine u4_ 14 (some 41) m4_10 (any_of HT_.out (by kernel_rfl)) ?_
         refine u4_ 15 (some 42) m4_11 (any_of HT_.out (by kernel_rfl)) ?_
         refine u4_ 16 (some 43) m4_12 (any_of HT_.out (by kernel_rfl)) ?_
         refine p4_ 17 (some 44) m4_13 (any_of HT_.out (by kernel_rfl)) ?_
         refine p4_ 18 (some 45) m4_14 (any_of HT_.out (by kernel_rfl)) ?_
         refine u4_ 19 (some 46) m4_15 (any_of HT_.out (by kernel_rfl)) ?_
         refine u4_ 20 (some 47) m4_16 (any_of HT_.out (by kernel_rfl)) ?_
         refine u4_ 21 (some 48) m4_17 (any_of HT_.out (by kernel_rfl)) ?_
         refine u4_ 22 (some 49) m4_18 (any_of HT_.out (by kernel_rfl)) ?_
         refine u4_ 23 (some 50) m4_31 (any_of HT_.out (by kernel_rfl)) ?_
         refine u4_ 24 (some 51) m4_32 (any_of HT_.out (by kernel_rfl)) ?_
         refine u4_ 25 (some 52) m4_33 (any_of HT_.out (by kernel_rfl)) ?_
         refine u4_ 26 (some 53) m4_34 (any_of HT_.out (by kernel_rfl)) ?_
         refine u4_ 27 (some 54) m4_35 (any_of HT_.out (by kernel_rfl)) ?_
         refine u4_ 28 (some 55) m4_36 (any_of HT_.out (by kernel_rfl)) ?_
         refine u4_ 29 (some 56) m4_37 (any_of HT_.out (by kernel_rfl)) ?_
         refine u4_ 30 (some 57) m4_38 (any_of HT_.out (by kernel_rfl)) ?_
         refine u4_ 31 (some 58) m4_19 (any_of HT_.out (by kernel_rfl)) ?_
         refine u4_ 32 (some 59) m4_20 (any_of HT_.out (by kernel_rfl)) ?_
         refine u4_ 33 (some 60) m4_21 (any_of HT_.out (by kernel_rfl)) ?_
         refine u4_ 34 (some 61) m4_22 (any_of HT_.out (by kernel_rfl)) ?_
         refine u4_ 35 (some 62) m4_23 (any_of HT_.out (by kernel_rfl)) ?_
         refine u4_ 36 (some 63) m4_24 (any_of HT_.out (by kernel_rfl)) ?_
         refine p4_ 37 (some 64) m4_25 (any_of HT_.out (by kernel_rfl)) ?_
         refine done_ (done_of HT_.out (by kernel_rfl)) ?_
         try go_wp2
         go_ret
         exact ⟨by first | rfl | (simp [errW_none, errW_some] <;> rfl) | (simp [*, errW_none, errW_some] <;> rfl), by repeat (first | (with_reducible first | exact HB.out | apply below_alloc | apply pw_below_drewN | apply below_drew1 | refine below_set ?_ GE123.out) | exact HB.out)⟩
       ·rw [if_neg c14] at H
        exact absurd H (by simp)
      ·rw [if_neg c13] at H
       have c13b0 : decide (x3_2 < (l0_2.length : Int)) = false := decide_eq_false c13
       clear c13
       (first | rw [c13b0] | (simp only [i64_w, i32_w]; rw [c13b0]) | skip)
       obtain rfl := Option.some.inj H
       go_wp2
       go_ret
       exact ⟨by first | rfl | (simp [errW_none, errW_some] <;> rfl) | (simp [*, errW_none, errW_some] <;> rfl), by repeat (first | (with_reducible first | exact HB.out | apply below_alloc | apply pw_below_drewN | apply below_drew1 | refine below_set ?_ GE123.out) | exact HB.out)⟩

end Go.Proofs.Ytahhigniaepgeaa.QFnExactRaftOk
