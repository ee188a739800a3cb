-- Written by a program of this session (wip/xprint.py), which turns a copy of the kit's print: its own text, no printed one.
import Derived.Test.YtffchioimceemaaQFnExactZoneOfx0
import Derived.Test.YtffchioimceemaaQFnExactZoneOfx7
import Derived.Test.YtffchioimceemaaQFnExactZoneOfx8
namespace Go.Proofs.Ytffchioimceemaa.QFnExactZoneOf
open Go.RowKit Go.Proofs.YtffchioimceemaaW.PrintWords Go.Proofs.YtffchioimceemaaW.PrintLast Go.Proofs.YtffchioimceemaaW.PrintMore
attribute [local go_sem] max2_int min2_int max_two min_two max_three min_three max_four min_four   -- for this text's walks alone
set_option linter.unusedVariables false
set_option linter.unusedSimpArgs false

abbrev m9_0 : Array Bool := #[false, false, false, false, false, false, false, false, false, false, false, false, false, false, false, false, false, false, false, false, false, false, false, false, false, false, false, false, false, false, false, false, false, false]
abbrev m9_1 : Array Bool := #[true, false, false, false, false, false, false, false, false, false, false, false, false, false, false, false, false, false, false, false, false, false, false, false, false, false, false, false, false, false, false, false, false, false]
abbrev m9_2 : Array Bool := #[true, true, false, false, false, false, false, false, false, false, false, false, false, false, false, false, false, false, false, false, false, false, false, false, false, false, false, false, false, false, false, false, false, false]
abbrev m9_3 : Array Bool := #[true, true, true, false, false, false, false, false, false, false, false, false, false, false, false, false, false, false, false, false, false, false, false, false, false, false, false, false, false, false, false, false, false, false]
abbrev m9_4 : Array Bool := #[true, true, true, true, false, false, false, false, false, false, false, false, false, false, false, false, false, false, false, false, false, false, false, false, false, false, false, false, false, false, false, false, false, false]
abbrev m9_5 : Array Bool := #[true, true, true, true, true, false, false, false, false, false, false, false, false, false, false, false, false, false, false, false, false, false, false, false, false, false, false, false, false, false, false, false, false, false]
abbrev m9_6 : Array Bool := #[true, true, true, true, true, true, false, false, false, false, false, false, false, false, false, false, false, false, false, false, false, false, false, false, false, false, false, false, false, false, false, false, false, false]
abbrev m9_7 : Array Bool := #[true, true, true, true, true, true, true, false, false, false, false, false, false, false, false, false, false, false, false, false, false, false, false, false, false, false, false, false, false, false, false, false, false, false]
abbrev m9_8 : Array Bool := #[true, true, true, true, true, true, true, true, false, false, false, false, false, false, false, false, false, false, false, false, false, false, false, false, false, false, false, false, false, false, false, false, false, false]
abbrev m9_9 : Array Bool := #[true, true, true, true, true, true, true, true, true, false, false, false, false, false, false, false, false, false, false, false, false, false, false, false, false, false, false, false, false, false, false, false, false, false]
abbrev m9_10 : Array Bool := #[true, true, true, true, true, true, true, true, true, true, true, true, true, true, true, true, false, false, false, false, false, false, false, false, false, false, false, false, false, false, false, false, false, false]
abbrev m9_11 : Array Bool := #[true, true, true, true, true, true, true, true, true, true, true, true, true, true, true, true, true, false, false, false, false, false, false, false, false, false, false, false, false, false, false, false, false, false]
abbrev m9_12 : Array Bool := #[true, true, true, true, true, true, true, true, true, true, true, true, true, true, true, true, true, true, false, false, false, false, false, false, false, false, false, false, false, false, false, false, false, false]
abbrev m9_13 : Array Bool := #[true, true, true, true, true, true, true, true, true, true, true, true, true, true, true, true, true, true, true, false, false, false, false, false, false, false, false, false, false, false, false, false, false, false]
abbrev m9_14 : Array Bool := #[true, true, true, true, true, true, true, true, true, true, true, true, true, true, true, true, true, true, true, true, false, false, false, false, false, false, false, false, false, false, false, false, false, false]
abbrev m9_15 : Array Bool := #[false, false, false, false, false, false, false, false, false, false, false, false, false, false, false, false, false, false, false, false, false, false, false, false, false, false, false, false, false, false, false]
abbrev m9_16 : Array Bool := #[true, true, true, true, true, true, true, true, true, true, true, true, true, true, true, true, true, true, true, true, true, false, false, false, false, false, false, false, false, false, false, false, false, false]
abbrev m9_17 : Array Bool := #[true, false, false, false, false, false, false, false, false, false, false, false, false, false, false, false, false, false, false, false, false, false, false, false, false, false, false, false, false, false, false]
abbrev m9_18 : Array Bool := #[true, true, false, false, false, false, false, false, false, false, false, false, false, false, false, false, false, false, false, false, false, false, false, false, false, false, false, false, false, false, false]
abbrev m9_19 : Array Bool := #[true, true, true, true, true, true, true, true, true, true, true, true, true, true, true, true, true, true, true, true, true, true, true, false, false, false, false, false, false, false, false, false, false, false]
abbrev m9_20 : Array Bool := #[true, true, true, false, false, false, false, false, false, false, false, false, false, false, false, false, false, false, false, false, false, false, false, false, false, false, false, false, false, false, false]
abbrev m9_21 : Array Bool := #[true, true, true, true, true, true, true, true, true, true, true, true, true, true, true, true, true, true, true, true, true, true, true, true, false, false, false, false, false, false, false, false, false, false]
abbrev m9_22 : Array Bool := #[true, true, true, true, false, false, false, false, false, false, false, false, false, false, false, false, false, false, false, false, false, false, false, false, false, false, false, false, false, false, false]
abbrev m9_23 : Array Bool := #[true, true, true, true, true, true, true, true, true, true, true, true, true, true, true, true, true, true, true, true, true, true, true, true, true, false, false, false, false, false, false, false, false, false]
abbrev m9_24 : Array Bool := #[true, true, true, true, true, false, false, false, false, false, false, false, false, false, false, false, false, false, false, false, false, false, false, false, false, false, false, false, false, false, false]
abbrev m9_25 : Array Bool := #[true, true, true, true, true, true, true, true, true, true, true, true, true, true, true, true, true, true, true, true, true, true, true, true, true, true, false, false, false, false, false, false, false, false]
abbrev m9_26 : Array Bool := #[true, true, true, true, true, true, false, false, false, false, false, false, false, false, false, false, false, false, false, false, false, false, false, false, false, false, false, false, false, false, false]
abbrev m9_27 : Array Bool := #[true, true, true, true, true, true, true, true, true, true, true, true, true, true, true, true, true, true, true, true, true, true, true, true, true, true, true, false, false, false, false, false, false, false]
abbrev m9_28 : Array Bool := #[true, true, true, true, true, true, true, false, false, false, false, false, false, false, false, false, false, false, false, false, false, false, false, false, false, false, false, false, false, false, false]
abbrev m9_29 : Array Bool := #[true, true, true, true, true, true, true, true, true, true, true, true, true, true, true, true, true, true, true, true, true, true, true, true, true, true, true, true, false, false, false, false, false, false]
abbrev m9_30 : Array Bool := #[true, true, true, true, true, true, true, true, false, false, false, false, false, false, false, false, false, false, false, false, false, false, false, false, false, false, false, false, false, false, false]
abbrev m9_31 : Array Bool := #[true, true, true, true, true, true, true, true, true, true, true, true, true, true, true, true, true, true, true, true, true, true, true, true, true, true, true, true, true, true, false, false, false, false]
abbrev m9_32 : Array Bool := #[true, true, true, true, true, true, true, true, true, true, true, true, true, true, true, true, true, true, true, true, true, true, true, true, true, true, true, true, true, true, true, false, false, false]
abbrev m9_33 : Array Bool := #[true, true, true, true, true, true, true, true, true, true, true, true, true, true, true, true, true, true, true, true, true, true, true, true, true, true, true, true, true, true, true, true, false, false]
abbrev m9_34 : Array Bool := #[true, true, true, true, true, true, true, true, true, true, true, true, true, true, true, true, true, true, true, true, true, true, true, true, true, true, true, true, true, true, true, true, true, false]
abbrev m9_35 : Array Bool := #[true, true, true, true, true, true, true, true, true, true, true, true, true, true, true, true, true, true, true, true, true, true, true, true, true, true, true, true, true, true, true, true, true, true]
abbrev m9_36 : Array Bool := #[true, true, true, true, true, true, true, true, true, true, true, true, true, true, true, false, false, false, false, false, false, false, false, false, false, false, false, false, false, false, false]
abbrev m9_37 : Array Bool := #[true, true, true, true, true, true, true, true, true, true, true, true, true, true, true, true, false, false, false, false, false, false, false, false, false, false, false, false, false, false, false]
abbrev m9_38 : Array Bool := #[true, true, true, true, true, true, true, true, true, true, true, true, true, true, true, true, true, false, false, false, false, false, false, false, false, false, false, false, false, false, false]
abbrev m9_39 : Array Bool := #[true, true, true, true, true, true, true, true, true, true, true, true, true, true, true, true, true, true, false, false, false, false, false, false, false, false, false, false, false, false, false]
abbrev m9_40 : Array Bool := #[true, true, true, true, true, true, true, true, true, true, true, true, true, true, true, true, true, true, true, false, false, false, false, false, false, false, false, false, false, false, false]
abbrev m9_41 : Array Bool := #[true, true, true, true, true, true, true, true, true, true, true, true, true, true, true, true, true, true, true, true, false, false, false, false, false, false, false, false, false, false, false]
abbrev m9_42 : Array Bool := #[true, true, true, true, true, true, true, true, true, true, true, true, true, true, true, true, true, true, true, true, true, false, false, false, false, false, false, false, false, false, false]
abbrev m9_43 : Array Bool := #[true, true, true, true, true, true, true, true, true, true, true, true, true, true, true, true, true, true, true, true, true, true, false, false, false, false, false, false, false, false, false]
abbrev m9_44 : Array Bool := #[true, true, true, true, true, true, true, true, true, true, true, true, true, true, true, true, true, true, true, true, true, true, true, false, false, false, false, false, false, false, false]
abbrev m9_45 : Array Bool := #[true, true, true, true, true, true, true, true, true, true, true, true, true, true, true, true, true, true, true, true, true, true, true, true, false, false, false, false, false, false, false]
abbrev m9_46 : Array Bool := #[true, true, true, true, true, true, true, true, true, true, true, true, true, true, true, true, true, true, true, true, true, true, true, true, true, true, false, false, false, false, false]
abbrev m9_47 : Array Bool := #[true, true, true, true, true, true, true, true, true, true, true, true, true, true, true, true, true, true, true, true, true, true, true, true, true, true, true, false, false, false, false]
abbrev m9_48 : Array Bool := #[true, true, true, true, true, true, true, true, true, true, true, true, true, true, true, true, true, true, true, true, true, true, true, true, true, true, true, true, false, false, false]
abbrev m9_49 : Array Bool := #[true, true, true, true, true, true, true, true, true, true, true, true, true, true, true, true, true, true, true, true, true, true, true, true, true, true, true, true, true, false, false]
abbrev m9_50 : Array Bool := #[true, true, true, true, true, true, true, true, true, true, true, true, true, true, true, true, true, true, true, true, true, true, true, true, true, true, true, true, true, true, false]
abbrev m9_51 : Array Bool := #[true, true, true, true, true, true, true, true, true, true, true, true, true, true, true, true, true, true, true, true, true, true, true, true, true, true, true, true, true, true, true]
abbrev m9_52 : Array Bool := #[true, true, true, true, true, true, true, true, true, true, true, true, true, true, true, true, true, true, true, true, true, false, true, false, false, false, false, false, false, false, false, false, false, false]
abbrev m9_53 : Array Bool := #[true, true, true, true, true, true, true, true, true, true, true, true, true, true, true, true, true, true, true, true, true, true, true, true, true, true, true, true, true, false, false, false, false, false]
abbrev m9_54 : Array Bool := #[true, true, true, true, true, true, true, true, true, true, true, true, true, true, true, true, true, true, true, true, true, true, true, true, true, false, false, false, false, false, false]
abbrev m9_55 : Array Bool := #[true, true, true, true, true, true, true, true, true, false, true, false, false, false, false, false, false, false, false, false, false, false, false, false, false, false, false, false, false, false, false, false, false, false]
abbrev m9_56 : Array Bool := #[true, true, true, true, true, true, true, true, true, true, false, false, false, false, false, false, false, false, false, false, false, false, false, false, false, false, false, false, false, false, false, false, false, false]
abbrev m9_57 : Array Bool := #[true, true, true, true, true, true, true, true, true, false, true, true, false, false, false, false, false, false, false, false, false, false, false, false, false, false, false, false, false, false, false, false, false, false]
abbrev m9_58 : Array Bool := #[true, true, true, true, true, true, true, true, true, true, true, false, false, false, false, false, false, false, false, false, false, false, false, false, false, false, false, false, false, false, false, false, false, false]
abbrev m9_59 : Array Bool := #[true, true, true, true, true, true, true, true, true, false, true, true, false, false, false, true, false, false, false, false, false, false, false, false, false, false, false, false, false, false, false, false, false, false]
abbrev m9_60 : Array Bool := #[true, true, true, true, true, true, true, true, true, true, true, true, false, false, false, false, false, false, false, false, false, false, false, false, false, false, false, false, false, false, false, false, false, false]
abbrev m9_61 : Array Bool := #[true, true, true, true, true, true, true, true, true, true, true, true, false, false, false, true, false, false, false, false, false, false, false, false, false, false, false, false, false, false, false, false, false, false]
abbrev m9_62 : Array Bool := #[true, true, true, true, true, true, true, true, true, true, true, true, true, false, false, false, false, false, false, false, false, false, false, false, false, false, false, false, false, false, false, false, false, false]
abbrev m9_63 : Array Bool := #[true, true, true, true, true, true, true, true, true, true, true, true, true, false, false, true, false, false, false, false, false, false, false, false, false, false, false, false, false, false, false, false, false, false]
abbrev m9_64 : Array Bool := #[true, true, true, true, true, true, true, true, true, true, true, true, true, true, false, false, false, false, false, false, false, false, false, false, false, false, false, false, false, false, false, false, false, false]
abbrev m9_65 : Array Bool := #[true, true, true, true, true, true, true, true, true, true, true, true, true, true, false, true, false, false, false, false, false, false, false, false, false, false, false, false, false, false, false, false, false, false]
abbrev m9_66 : Array Bool := #[true, true, true, true, true, true, true, true, true, true, true, true, true, true, true, false, false, false, false, false, false, false, false, false, false, false, false, false, false, false, false, false, false, false]
abbrev m9_67 : Array Bool := #[true, true, true, true, true, true, true, true, false, true, false, false, false, false, false, false, false, false, false, false, false, false, false, false, false, false, false, false, false, false, false]
abbrev m9_68 : Array Bool := #[true, true, true, true, true, true, true, true, true, false, false, false, false, false, false, false, false, false, false, false, false, false, false, false, false, false, false, false, false, false, false]
abbrev m9_69 : Array Bool := #[true, true, true, true, true, true, true, true, false, true, true, false, false, false, false, false, false, false, false, false, false, false, false, false, false, false, false, false, false, false, false]
abbrev m9_70 : Array Bool := #[true, true, true, true, true, true, true, true, true, true, false, false, false, false, false, false, false, false, false, false, false, false, false, false, false, false, false, false, false, false, false]
abbrev m9_71 : Array Bool := #[true, true, true, true, true, true, true, true, false, true, true, false, false, false, true, false, false, false, false, false, false, false, false, false, false, false, false, false, false, false, false]
abbrev m9_72 : Array Bool := #[true, true, true, true, true, true, true, true, true, true, true, false, false, false, false, false, false, false, false, false, false, false, false, false, false, false, false, false, false, false, false]
abbrev m9_73 : Array Bool := #[true, true, true, true, true, true, true, true, true, true, true, false, false, false, true, false, false, false, false, false, false, false, false, false, false, false, false, false, false, false, false]
abbrev m9_74 : Array Bool := #[true, true, true, true, true, true, true, true, true, true, true, true, false, false, false, false, false, false, false, false, false, false, false, false, false, false, false, false, false, false, false]
abbrev m9_75 : Array Bool := #[true, true, true, true, true, true, true, true, true, true, true, true, false, false, true, false, false, false, false, false, false, false, false, false, false, false, false, false, false, false, false]
abbrev m9_76 : Array Bool := #[true, true, true, true, true, true, true, true, true, true, true, true, true, false, false, false, false, false, false, false, false, false, false, false, false, false, false, false, false, false, false]
abbrev m9_77 : Array Bool := #[true, true, true, true, true, true, true, true, true, true, true, true, true, false, true, false, false, false, false, false, false, false, false, false, false, false, false, false, false, false, false]
abbrev m9_78 : Array Bool := #[true, true, true, true, true, true, true, true, true, true, true, true, true, true, false, false, false, false, false, false, false, false, false, false, false, false, false, false, false, false, false]
abbrev m9_79 : Array Bool := #[true, true, true, true, true, true, true, true, true, true, true, true, true, true, true, true, true, true, true, true, true, true, false, false, false, false, false, false, false, false, false, false, false, false]
abbrev m9_80 : Array Bool := #[true, true, true, true, true, true, true, true, true, true, true, true, true, true, true, true, true, true, true, true, true, true, true, true, true, true, true, true, false, true, false, false, false, false]
abbrev m9_81 : Array Bool := #[true, true, true, true, true, true, true, true, true, true, true, true, true, true, true, true, true, true, true, true, true, true, true, true, false, true, false, false, false, false, false]
theorem p9_ {P : Program} {md : Region.Mode} {ops : Array Oper} {Q : Exit → Act → World → Prop} {S : World → Prop} {ds : List Nat} {oi : Oper} {v : Value} {fuel : Nat} {l : Array Bool} {a a' : Act} {w : World} (i : Nat) (N : Option Tmp) (l' : Array Bool) (hc : anyB md ops l l' i = true) (h : wpAnyLast P md ops Q S ds fuel l' a' w)
  (hi : ops[i]? = some oi := by exact rfl) (hN : oi.dst = N := by exact rfl) (hQ : ∀ c a w, Q (.panic c) (a.put oi.dst v) w → Q (.panic c) a w := by exact fun _ _ _ h => h)
  (hy : Yields P ops oi v a := by (refine Or.inl ⟨by rfl, ?_⟩; intro w'; go_simp; with_reducible rfl)) (ha : a.put N v = a' := by (simp only [Act.put, List.setIfInBounds_toArray, List.set_cons_zero, List.set_cons_succ, i64_w, i32_w]; rfl)) :
  wpAnyLast P md ops Q S ds (fuel + 1) l a w := pure_ l' hi hN hc hQ hy ha h
theorem u9_ {P : Program} {md : Region.Mode} {ops : Array Oper} {Q : Exit → Act → World → Prop} {S : World → Prop} {ds : List Nat} {oi : Oper} {fuel : Nat} {l : Array Bool} {a a' : Act} {w : World} (i : Nat) (N : Option Tmp) (l' : Array Bool) (hc : anyB md ops l l' i = true) (h : wpAnyLast P md ops Q S ds fuel l' a' w)
  (hi : ops[i]? = some oi := by exact rfl) (hN : oi.dst = N := by exact rfl) (hQ : ∀ c a w, Q (.panic c) (a.put oi.dst undef) w → Q (.panic c) a w := by exact fun _ _ _ h => h)
  (hy : Yields P ops oi undef a := by exact Or.inr ⟨by rfl, rfl⟩) (ha : a.put N undef = a' := by (simp only [Act.put, List.setIfInBounds_toArray, List.set_cons_zero, List.set_cons_succ, i64_w, i32_w]; rfl)) :
  wpAnyLast P md ops Q S ds (fuel + 1) l a w := pure_ l' hi hN hc hQ hy ha h

/-! ### impl_SourceOk: function 12 -/
mutual
def impl_SourceOk.l0 : Nat → List (S59) → Int → Int → List (S59) → List (S29) → List (S47) → Option (Bool)
 | 0, _, _, _, _, _, _ => none
 | k + 1, x10, x11, x12, x240000, x240001, x240002 => if x12 < x11 then (if 0 ≤ x12 then (if x12 < (x10.length : Int) then ((impl_ruleOk.f k ((rd_T59 x10 x12).f0) ((rd_T59 x10 x12).f1) ((rd_T59 x10 x12).f2) ((rd_T59 x10 x12).f3) ((rd_T59 x10 x12).f4.f0) ((rd_T59 x10 x12).f4.f1) ((rd_T59 x10 x12).f4.f2) ((rd_T59 x10 x12).f5) ((rd_T59 x10 x12).f6)).bind fun t242 => (if t242 = true then (impl_SourceOk.l0 k x10 x11 (wrap64 (x12 + 1)) x240000 x240001 x240002) else (some false))) else (none)) else (none)) else (impl_SourceOk.l1 k x240001 (x240001.length : Int) 0 x240000 x240001 x240002)
def impl_SourceOk.l1 : Nat → List (S29) → Int → Int → List (S59) → List (S29) → List (S47) → Option (Bool)
 | 0, _, _, _, _, _, _ => none
 | k + 1, x21, x22, x23, x240000, x240001, x240002 => if x23 < x22 then (if 0 ≤ x23 then (if x23 < (x21.length : Int) then ((impl_zoneOk.f ((rd_T29 x21 x23).f0) ((rd_T29 x21 x23).f1) ((rd_T29 x21 x23).f2)).bind fun t245 => (if t245 = true then (if x23 > 0 then (if 0 ≤ (wrap64 (x23 - 1)) then (if (wrap64 (x23 - 1)) < (x240001.length : Int) then (if ((rd_T29 x240001 (wrap64 (x23 - 1))).f0) ≥ ((rd_T29 x21 x23).f0) then (some false) else (if ((rd_T29 x21 x23).f2) = 0 then (impl_SourceOk.l1 k x21 x22 (wrap64 (x23 + 1)) x240000 x240001 x240002) else ((impl_hasRule.f x240000 x240001 x240002 ((rd_T29 x21 x23).f2)).bind fun t247 => (if t247 = true then (impl_SourceOk.l1 k x21 x22 (wrap64 (x23 + 1)) x240000 x240001 x240002) else (some false))))) else (none)) else (none)) else (if ((rd_T29 x21 x23).f2) = 0 then (impl_SourceOk.l1 k x21 x22 (wrap64 (x23 + 1)) x240000 x240001 x240002) else ((impl_hasRule.f x240000 x240001 x240002 ((rd_T29 x21 x23).f2)).bind fun t248 => (if t248 = true then (impl_SourceOk.l1 k x21 x22 (wrap64 (x23 + 1)) x240000 x240001 x240002) else (some false))))) else (some false))) else (none)) else (none)) else (impl_SourceOk.l2 k x240002 (x240002.length : Int) 0 x240000 x240001 x240002)
def impl_SourceOk.l2 : Nat → List (S47) → Int → Int → List (S59) → List (S29) → List (S47) → Option (Bool)
 | 0, _, _, _, _, _, _ => none
 | k + 1, x61, x62, x63, x240000, x240001, x240002 => if x63 < x62 then (if 0 ≤ x63 then (if x63 < (x61.length : Int) then ((impl_isGreat.f ((rd_T47 x61 x63).f0)).bind fun t251 => (if t251 = true then (if x63 > 0 then (if 0 ≤ (wrap64 (x63 - 1)) then (if (wrap64 (x63 - 1)) < (x240002.length : Int) then (if ((rd_T47 x240002 (wrap64 (x63 - 1))).f0) ≥ ((rd_T47 x61 x63).f0) then (some false) else ((impl_zoneAt.f x240000 x240001 x240002 ((rd_T47 x61 x63).f1)).bind fun t253 => (if t253 < 0 then (some false) else ((impl_zoneAt.f x240000 x240001 x240002 ((rd_T47 x61 x63).f0)).bind fun t254 => (if t254 ≥ 0 then (some false) else (impl_SourceOk.l2 k x61 x62 (wrap64 (x63 + 1)) x240000 x240001 x240002)))))) else (none)) else (none)) else ((impl_zoneAt.f x240000 x240001 x240002 ((rd_T47 x61 x63).f1)).bind fun t255 => (if t255 < 0 then (some false) else ((impl_zoneAt.f x240000 x240001 x240002 ((rd_T47 x61 x63).f0)).bind fun t256 => (if t256 ≥ 0 then (some false) else (impl_SourceOk.l2 k x61 x62 (wrap64 (x63 + 1)) x240000 x240001 x240002)))))) else (some false))) else (none)) else (none)) else (some (decide ((x240000.length : Int) ≤ 20)))
end
def impl_SourceOk.f (k : Nat) (l0_0 : List (S59)) (l0_1 : List (S29)) (l0_2 : List (S47)) : Option (Bool) := impl_SourceOk.l0 k l0_0 (l0_0.length : Int) 0 l0_0 l0_1 l0_2
theorem impl_SourceOk.mono_l : ∀ k, (∀ y0 y1 y2 y3 y4 y5, LeO (impl_SourceOk.l0 k y0 y1 y2 y3 y4 y5) (impl_SourceOk.l0 (k + 1) y0 y1 y2 y3 y4 y5)) ∧ (∀ y0 y1 y2 y3 y4 y5, LeO (impl_SourceOk.l1 k y0 y1 y2 y3 y4 y5) (impl_SourceOk.l1 (k + 1) y0 y1 y2 y3 y4 y5)) ∧ (∀ y0 y1 y2 y3 y4 y5, LeO (impl_SourceOk.l2 k y0 y1 y2 y3 y4 y5) (impl_SourceOk.l2 (k + 1) y0 y1 y2 y3 y4 y5))
 | 0 => ⟨fun _ _ _ _ _ _ r h => by simp [impl_SourceOk.l0] at h, fun _ _ _ _ _ _ r h => by simp [impl_SourceOk.l1] at h, fun _ _ _ _ _ _ r h => by simp [impl_SourceOk.l2] at h⟩
 | k + 1 => by
  obtain ⟨ih0, ih1, ih2⟩ := impl_SourceOk.mono_l k
  refine ⟨?_, ?_, ?_⟩
  ·intro y0 y1 y2 y3 y4 y5
   unfold impl_SourceOk.l0
   repeat' first
   | (with_reducible exact ih0 _ _ _ _ _ _)
   | (with_reducible exact ih1 _ _ _ _ _ _)
   | (with_reducible exact ih2 _ _ _ _ _ _)
   | (with_reducible exact impl_ruleOk.mono _ _ _ _ _ _ _ _ _ _)
   | (with_reducible exact LeO.refl _)
   | (with_reducible exact LeO.none _)
   | (with_reducible refine LeO.ite ?_ ?_)
   | (with_reducible refine LeO.bind ?_ (fun _ => ?_))
   | exact ih0 _ _ _ _ _ _
   | exact ih1 _ _ _ _ _ _
   | exact ih2 _ _ _ _ _ _
   | exact impl_ruleOk.mono _ _ _ _ _ _ _ _ _ _
   | exact LeO.none _
   | refine LeO.ite ?_ ?_
   | refine LeO.bind ?_ (fun _ => ?_)
  ·intro y0 y1 y2 y3 y4 y5
   unfold impl_SourceOk.l1
   repeat' first
   | (with_reducible exact ih0 _ _ _ _ _ _)
   | (with_reducible exact ih1 _ _ _ _ _ _)
   | (with_reducible exact ih2 _ _ _ _ _ _)
   | (with_reducible exact impl_ruleOk.mono _ _ _ _ _ _ _ _ _ _)
   | (with_reducible exact LeO.refl _)
   | (with_reducible exact LeO.none _)
   | (with_reducible refine LeO.ite ?_ ?_)
   | (with_reducible refine LeO.bind ?_ (fun _ => ?_))
   | exact ih0 _ _ _ _ _ _
   | exact ih1 _ _ _ _ _ _
   | exact ih2 _ _ _ _ _ _
   | exact impl_ruleOk.mono _ _ _ _ _ _ _ _ _ _
   | exact LeO.none _
   | refine LeO.ite ?_ ?_
   | refine LeO.bind ?_ (fun _ => ?_)
  ·intro y0 y1 y2 y3 y4 y5
   unfold impl_SourceOk.l2
   repeat' first
   | (with_reducible exact ih0 _ _ _ _ _ _)
   | (with_reducible exact ih1 _ _ _ _ _ _)
   | (with_reducible exact ih2 _ _ _ _ _ _)
   | (with_reducible exact impl_ruleOk.mono _ _ _ _ _ _ _ _ _ _)
   | (with_reducible exact LeO.refl _)
   | (with_reducible exact LeO.none _)
   | (with_reducible refine LeO.ite ?_ ?_)
   | (with_reducible refine LeO.bind ?_ (fun _ => ?_))
   | exact ih0 _ _ _ _ _ _
   | exact ih1 _ _ _ _ _ _
   | exact ih2 _ _ _ _ _ _
   | exact impl_ruleOk.mono _ _ _ _ _ _ _ _ _ _
   | exact LeO.none _
   | refine LeO.ite ?_ ?_
   | refine LeO.bind ?_ (fun _ => ?_)
theorem impl_SourceOk.mono : ∀ a0 a1 a2 k, LeO (impl_SourceOk.f k a0 a1 a2) (impl_SourceOk.f (k + 1) a0 a1 a2) := by
 intro a0 a1 a2 k
 obtain ⟨ih0, ih1, ih2⟩ := impl_SourceOk.mono_l k
 unfold impl_SourceOk.f
 repeat' first
   | (with_reducible exact ih0 _ _ _ _ _ _)
   | (with_reducible exact ih1 _ _ _ _ _ _)
   | (with_reducible exact ih2 _ _ _ _ _ _)
   | (with_reducible exact impl_ruleOk.mono _ _ _ _ _ _ _ _ _ _)
   | (with_reducible exact LeO.refl _)
   | (with_reducible exact LeO.none _)
   | (with_reducible refine LeO.ite ?_ ?_)
   | (with_reducible refine LeO.bind ?_ (fun _ => ?_))
   | exact ih0 _ _ _ _ _ _
   | exact ih1 _ _ _ _ _ _
   | exact ih2 _ _ _ _ _ _
   | exact impl_ruleOk.mono _ _ _ _ _ _ _ _ _ _
   | exact LeO.none _
   | refine LeO.ite ?_ ?_
   | refine LeO.bind ?_ (fun _ => ?_)
def impl_SourceOk.T10 : Bool × List (List Nat × List Nat) := (true, [([], []), ([0], [0]), ([1], [1]), ([2, 1], [2]), ([3], [3]), ([4, 3], [3, 4]), ([5, 3, 3], [3, 5]), ([6], [6]), ([7, 6], [6, 7]), ([6], [6]), ([9, 6], [6, 9]), ([8, 10, 6], [6, 8, 10]), ([11, 6], [6, 11]), ([12, 6], [6, 12]), ([6], [6]), ([14, 6], [6, 14]), ([13, 15, 6], [6, 13, 15]), ([6, 16, 3], [3, 6, 16]), ([3, 17], [3, 17]), ([18, 6], [18]), ([19], [19]), ([20, 19], [19, 20]), ([21, 19], [19, 21]), ([22, 19, 19], [19, 22]), ([23], [23]), ([23], [23]), ([25, 23], [23, 25]), ([24, 26, 23, 23], [23, 24, 26]), ([27, 23], [23, 27]), ([23, 28, 19], [19, 23, 28]), ([19, 29], [19, 29])])
def impl_SourceOk.B10 : List Nat := [0, 1, 3, 7, 15, 31, 63, 127, 255, 127, 639, 2047, 4095, 8191, 127, 16511, 65535, 131071, 262143, 524287, 1048575, 2097151, 4194303, 8388607, 16777215, 16777215, 50331647, 134217727, 268435455, 536870911, 1073741823]
theorem impl_SourceOk.tab10 : rtab .any (opsOf Try.f12 10) = impl_SourceOk.T10 := by kernel_rfl
theorem impl_SourceOk.bits10 : waitsOk impl_SourceOk.T10.2 impl_SourceOk.B10 = true := by kernel_rfl
def impl_SourceOk.T16 : Bool × List (List Nat × List Nat) := (true, [([], []), ([0], [0]), ([1], [1]), ([2], [2]), ([3, 2], [3]), ([4], [4]), ([5, 4], [4, 5]), ([6, 4, 4], [4, 6]), ([7], [7]), ([8, 7], [7, 8]), ([7], [7]), ([10, 7], [7, 10]), ([9, 11, 7], [7, 9, 11]), ([12, 7], [7, 12]), ([13, 7], [7, 13]), ([7], [7]), ([15, 7], [7, 15]), ([14, 16, 7], [7, 14, 16]), ([7, 17, 4], [4, 7, 17]), ([4, 18], [4, 18]), ([19, 7], [19]), ([20], [20]), ([20], [20]), ([22, 20], [20, 22]), ([21, 23, 20, 20], [20, 21, 23]), ([24, 20], [20, 24]), ([20, 25], [20, 25]), ([26, 24], [26]), ([27], [27]), ([27], [27]), ([29, 27], [27, 29]), ([28, 30, 27, 27], [27, 28, 30]), ([31, 27], [27, 31]), ([27, 32], [27, 32])])
def impl_SourceOk.B16 : List Nat := [0, 1, 3, 7, 15, 31, 63, 127, 255, 511, 255, 1279, 4095, 8191, 16383, 255, 33023, 131071, 262143, 524287, 1048575, 2097151, 2097151, 6291455, 16777215, 33554431, 67108863, 134217727, 268435455, 268435455, 805306367, 2147483647, 4294967295, 8589934591]
theorem impl_SourceOk.tab16 : rtab .any (opsOf Try.f12 16) = impl_SourceOk.T16 := by kernel_rfl
theorem impl_SourceOk.bits16 : waitsOk impl_SourceOk.T16.2 impl_SourceOk.B16 = true := by kernel_rfl
set_option maxHeartbeats 8000000 in
set_option maxRecDepth 100000 in
theorem impl_SourceOk.calls (k : Nat) (A0_0 : Option Addr) (c0_0 : Nat) (l0_0 : List (S59)) (A0_1 : Option Addr) (c0_1 : Nat) (l0_1 : List (S29)) (A0_2 : Option Addr) (c0_2 : Nat) (l0_2 : List (S47)) (r : Bool) (w : World) (hr0_0 : Kd.C k59 w A0_0 l0_0.length l0_0) (hc0_0 : l0_0.length ≤ c0_0) (hr0_1 : Kd.C k29 w A0_1 l0_1.length l0_1) (hc0_1 : l0_1.length ≤ c0_1) (hr0_2 : Kd.C k47 w A0_2 l0_2.length l0_2) (hc0_2 : l0_2.length ≤ c0_2) (h : impl_SourceOk.f k l0_0 l0_1 l0_2 = some r) :
  Calls Try.prog 12 #[.agg #[.slice A0_0 l0_0.length c0_0, .slice A0_1 l0_1.length c0_1, .slice A0_2 l0_2.length c0_2]] w fun e w' => e = .returned (.bool r) ∧ Below w.heap.size w w' := by
 have hu36 := Try.underlying36
 have hu59 := Try.underlying59
 have hu29 := Try.underlying29
 have hu47 := Try.underlying47
 have HR0_0 := Aside0.mk hr0_0
 have HC0_0 := Aside0.mk hc0_0
 clear hr0_0 hc0_0
 have HR0_1 := Aside0.mk hr0_1
 have HC0_1 := Aside0.mk hc0_1
 clear hr0_1 hc0_1
 have HR0_2 := Aside0.mk hr0_2
 have HC0_2 := Aside0.mk hc0_2
 clear hr0_2 hc0_2
 have HB := Aside0.mk (Below.refl w.heap.size w)
 have H : (impl_SourceOk.l0 k l0_0 (l0_0.length : Int) 0 l0_0 l0_1 l0_2) = some r := h
 clear h
 have H' := Aside0.mk H
 clear H
 go_enter Try.func12, Try.ntmps12
 go_wp2_with (first | ((with_reducible refine gate_dst (N := 1) rfl ?_); refine box_event ?hg (N := 1) ?hd (cs := #[.slice A0_0 l0_0.length c0_0, .slice A0_1 l0_1.length c0_1, .slice A0_2 l0_2.length c0_2]) (t := 36) ?hr ?_; (case hd => rfl); (case hg => rfl); (case hr => first | (go_simp; done) | (go_simp; rfl)); intro gb239 hg w2 hbox hb; have n0_ := Aside0.mk (below_step (by repeat (first | (with_reducible first | exact HB.out | apply below_alloc | apply pw_below_drewN | apply below_drew1) | exact HB.out)) hb); have n1_ := Aside0.mk (hbox); have n2_ := Aside0.mk ((by rw [hg]; exact (below_size (by repeat (first | (with_reducible first | exact HB.out | apply below_alloc | apply pw_below_drewN | apply below_drew1) | exact HB.out))) : w.heap.size ≤ gb239)); have n3_ := Aside0.mk ((by rw [hg]; exact (below_size (by repeat (first | (with_reducible first | exact HB.out | apply below_alloc | apply pw_below_drewN | apply below_drew1) | exact HB.out))) : w.heap.size ≤ gb239)); clear HB; have HB := n0_; have BK239 := n1_; have GW239 := n2_; have GE239 := n3_; clear n0_ n1_ n2_ n3_; clear hb hbox hg; have hcz3_0 : w2.cell? ⟨gb239, 0, none⟩ = some (.slice A0_0 l0_0.length c0_0) := (blk_cell BK239.out 0).trans rfl; have hcz3_1 : w2.cell? ⟨gb239, 1, none⟩ = some (.slice A0_1 l0_1.length c0_1) := (blk_cell BK239.out 1).trans rfl; have hcz3_2 : w2.cell? ⟨gb239, 2, none⟩ = some (.slice A0_2 l0_2.length c0_2) := (blk_cell BK239.out 2).trans rfl; have hfz3_0 := blk_frozen BK239.out 0; have hfz3_1 := blk_frozen BK239.out 1; have hfz3_2 := blk_frozen BK239.out 2))
 go_loopg [12] k (fun kq v12 w' => ∃ (x12_1 : Int), v12 = .int .i64 x12_1 ∧ Aside0 (impl_SourceOk.l0 kq l0_0 (l0_0.length : Int) x12_1 l0_0 l0_1 l0_2 = some r) ∧ Aside0 (kq ≤ k) ∧ Aside0 (w'.heap[gb239]? = some (.cells #[(.slice A0_0 l0_0.length c0_0), (.slice A0_1 l0_1.length c0_1), (.slice A0_2 l0_2.length c0_2)] 36 (0, 0))) ∧ Aside0 (Below w.heap.size w w'))
 case atStart => exact ⟨(0), (by first | rfl | (simp; done) | (simp [*]; done)), H', ⟨Nat.le_refl _⟩, ⟨by (with_reducible repeat (first | refine blk_drewN ?_ _ | refine blk_drew ?_ | refine blk_alloc ?_ _)); exact BK239.out⟩, ⟨by repeat (first | (with_reducible first | exact HB.out | apply below_alloc | apply pw_below_drewN | apply below_drew1 | refine below_set ?_ GE239.out) | exact HB.out)⟩⟩
 case round =>
  clear H'
  try clear c1
  try clear p2
  (try clear hcz3_0; try clear hcz3_1; try clear hcz3_2; try clear hfz3_0; try clear hfz3_1; try clear hfz3_2)
  obtain ⟨x12_1, rfl, HA, HK1, BK239, HB⟩ := hrel
  cases gk with
  | zero => exact absurd HA.out (by simp [impl_SourceOk.l0])
  | succ k1 =>
   have H := HA.out
   clear HA
   simp only [impl_SourceOk.l0] at H
   go_upto_if 13 with (fail)
   by_cases c4 : x12_1 < (l0_0.length : Int)
   ·rw [if_pos c4] at H
    have c4b0 : decide (x12_1 < (l0_0.length : Int)) = true := decide_eq_true c4
    clear c4
    (first | rw [c4b0] | (simp only [i64_w, i32_w]; rw [c4b0]) | skip)
    by_cases c5 : 0 ≤ x12_1
    ·rw [if_pos c5] at H
     have c5b0 : decide (0 ≤ x12_1) = true := decide_eq_true c5
     clear c5
     by_cases c6 : x12_1 < (l0_0.length : Int)
     ·rw [if_pos c6] at H
      have c6b0 : decide (x12_1 < (l0_0.length : Int)) = true := decide_eq_true c6
      clear c6
      replace H := Option.bind_eq_some_iff.mp H
      obtain ⟨t242, A70, H⟩ := H
      replace H : (if t242 = true then (impl_SourceOk.l0 k1 l0_0 (l0_0.length : Int) (wrap64 (x12_1 + 1)) l0_0 l0_1 l0_2) else (some false)) = some r := H
      have A7 := Aside0.mk A70
      clear A70
      have p240 : 0 ≤ (x12_1 : Int) := of_decide_eq_true (by first | (with_reducible assumption) | assumption)
      have q240 : x12_1 < (l0_0.length : Int) := of_decide_eq_true (by first | (with_reducible assumption) | assumption)
      obtain ⟨ad240, e240, hx240_0, hx240_1, hx240_2, hx240_3, hx240_4, hx240_5, hx240_6, hx240_7, hx240_8⟩ := at_T59 HR0_0.out x12_1 p240 q240
      cases e240
      replace hx240_0 := (HB.out.cell (World.block_lt_of_cell? w _ hx240_0)).trans hx240_0
      replace hx240_1 := (HB.out.cell (World.block_lt_of_cell? w _ hx240_1)).trans hx240_1
      replace hx240_2 := (HB.out.cell (World.block_lt_of_cell? w _ hx240_2)).trans hx240_2
      replace hx240_3 := (HB.out.cell (World.block_lt_of_cell? w _ hx240_3)).trans hx240_3
      replace hx240_4 := (HB.out.cell (World.block_lt_of_cell? w _ hx240_4)).trans hx240_4
      replace hx240_5 := (HB.out.cell (World.block_lt_of_cell? w _ hx240_5)).trans hx240_5
      replace hx240_6 := (HB.out.cell (World.block_lt_of_cell? w _ hx240_6)).trans hx240_6
      replace hx240_7 := (HB.out.cell (World.block_lt_of_cell? w _ hx240_7)).trans hx240_7
      replace hx240_8 := (HB.out.cell (World.block_lt_of_cell? w _ hx240_8)).trans hx240_8
      replace p240 := eq_true p240
      replace q240 := eq_true q240
      go_upto_if 18 with (first | ((with_reducible refine gate_dst (N := 4) rfl ?_); refine box_event ?hg (N := 4) ?hd (cs := #[.int .i64 0, .int .i64 0, .int .i64 0, .int .i64 0, .int .i64 0, .int .i64 0, .int .i64 0, .int .i64 0, .int .i64 0]) (t := 59) ?hr ?_; (case hd => rfl); (case hg => rfl); (case hr => first | (go_simp; done) | (go_simp; rfl)); intro gb241 hg w8 hbox hb; have n0_ := Aside0.mk (blk_below (g := gb239) (o := .cells #[.slice (some ad240) l0_0.length c0_0, .slice A0_1 l0_1.length c0_1, .slice A0_2 l0_2.length c0_2] 36 (0, 0)) (by (with_reducible repeat (first | refine blk_drewN ?_ _ | refine blk_drew ?_ | refine blk_alloc ?_ _)); exact BK239.out) hb); have n1_ := Aside0.mk (below_step (by repeat (first | (with_reducible first | exact HB.out | apply below_alloc | apply pw_below_drewN | apply below_drew1 | refine below_set ?_ GE239.out) | exact HB.out)) hb); have n2_ := Aside0.mk (hbox); have n3_ := Aside0.mk ((by rw [hg]; exact (below_size (by repeat (first | (with_reducible first | exact HB.out | apply below_alloc | apply pw_below_drewN | apply below_drew1 | refine below_set ?_ GE239.out) | exact HB.out))) : w.heap.size ≤ gb241)); have n4_ := Aside0.mk ((by rw [hg]; exact (below_size (by repeat (first | (with_reducible first | exact HB.out | apply below_alloc | apply pw_below_drewN | apply below_drew1 | refine below_set ?_ GE239.out) | exact HB.out))) : w.heap.size ≤ gb241)); have n5_ := Aside0.mk ((by rw [hg]; exact Nat.ne_of_lt (blk_lt (g := gb239) (o := .cells #[.slice (some ad240) l0_0.length c0_0, .slice A0_1 l0_1.length c0_1, .slice A0_2 l0_2.length c0_2] 36 (0, 0)) (by (with_reducible repeat (first | refine blk_drewN ?_ _ | refine blk_drew ?_ | refine blk_alloc ?_ _)); exact BK239.out)) : gb239 ≠ gb241)); have n6_ := Aside0.mk ((by rw [hg]; exact Nat.ne_of_gt (blk_lt (g := gb239) (o := .cells #[.slice (some ad240) l0_0.length c0_0, .slice A0_1 l0_1.length c0_1, .slice A0_2 l0_2.length c0_2] 36 (0, 0)) (by (with_reducible repeat (first | refine blk_drewN ?_ _ | refine blk_drew ?_ | refine blk_alloc ?_ _)); exact BK239.out)) : gb241 ≠ gb239)); clear BK239; clear HB; have BK239 := n0_; have HB := n1_; have BK241 := n2_; have GW241 := n3_; have GE241 := n4_; have NB239_241 := n5_; have NB241_239 := n6_; clear n0_ n1_ n2_ n3_ n4_ n5_ n6_; clear hb hbox hg; have hnb9 := NB241_239.out; have hnc9 := NB239_241.out; have hcz10_0 : w8.cell? ⟨gb241, 0, none⟩ = some (.int .i64 0) := (blk_cell BK241.out 0).trans rfl; have hcz10_1 : w8.cell? ⟨gb241, 1, none⟩ = some (.int .i64 0) := (blk_cell BK241.out 1).trans rfl; have hcz10_2 : w8.cell? ⟨gb241, 2, none⟩ = some (.int .i64 0) := (blk_cell BK241.out 2).trans rfl; have hcz10_3 : w8.cell? ⟨gb241, 3, none⟩ = some (.int .i64 0) := (blk_cell BK241.out 3).trans rfl; have hcz10_4 : w8.cell? ⟨gb241, 4, none⟩ = some (.int .i64 0) := (blk_cell BK241.out 4).trans rfl; have hcz10_5 : w8.cell? ⟨gb241, 5, none⟩ = some (.int .i64 0) := (blk_cell BK241.out 5).trans rfl; have hcz10_6 : w8.cell? ⟨gb241, 6, none⟩ = some (.int .i64 0) := (blk_cell BK241.out 6).trans rfl; have hcz10_7 : w8.cell? ⟨gb241, 7, none⟩ = some (.int .i64 0) := (blk_cell BK241.out 7).trans rfl; have hcz10_8 : w8.cell? ⟨gb241, 8, none⟩ = some (.int .i64 0) := (blk_cell BK241.out 8).trans rfl; have hfz10_0 := blk_frozen BK241.out 0; have hfz10_1 := blk_frozen BK241.out 1; have hfz10_2 := blk_frozen BK241.out 2; have hfz10_3 := blk_frozen BK241.out 3; have hfz10_4 := blk_frozen BK241.out 4; have hfz10_5 := blk_frozen BK241.out 5; have hfz10_6 := blk_frozen BK241.out 6; have hfz10_7 := blk_frozen BK241.out 7; have hfz10_8 := blk_frozen BK241.out 8) | ((with_reducible refine gate_callee (f := 26) rfl ?_); refine goesL_ (some 17) rfl rfl Try.func26 (by kernel_rfl) rfl #[.agg #[.int .i64 ((rd_T59 l0_0 x12_1).f0), .int .i64 ((rd_T59 l0_0 x12_1).f1), .int .i64 ((rd_T59 l0_0 x12_1).f2), .int .i64 ((rd_T59 l0_0 x12_1).f3), .int .i64 ((rd_T59 l0_0 x12_1).f4.f0), .int .i64 ((rd_T59 l0_0 x12_1).f4.f1), .int .i64 ((rd_T59 l0_0 x12_1).f4.f2), .int .i64 ((rd_T59 l0_0 x12_1).f5), .int .i64 ((rd_T59 l0_0 x12_1).f6)]] rfl (by (try simp only [List.map_toArray, List.map_cons, List.map_nil]); first | done | rfl | (simp only [List.length_drop, List.length_take]; rfl)) ?_; (with_reducible refine (impl_ruleOk.calls k1 ((rd_T59 l0_0 x12_1).f0) ((rd_T59 l0_0 x12_1).f1) ((rd_T59 l0_0 x12_1).f2) ((rd_T59 l0_0 x12_1).f3) ((rd_T59 l0_0 x12_1).f4.f0) ((rd_T59 l0_0 x12_1).f4.f1) ((rd_T59 l0_0 x12_1).f4.f2) ((rd_T59 l0_0 x12_1).f5) ((rd_T59 l0_0 x12_1).f6) t242 _ A7.out).mono ?_); rintro e w11 ⟨rfl, hb⟩; refine ⟨_, rfl, ?_⟩; have n0_ := Aside0.mk (blk_below (g := gb239) (o := .cells #[.slice (some ad240) l0_0.length c0_0, .slice A0_1 l0_1.length c0_1, .slice A0_2 l0_2.length c0_2] 36 (0, 0)) (by (with_reducible repeat (first | refine blk_drewN ?_ _ | refine blk_drew ?_ | refine blk_alloc ?_ _)); refine blk_far ?_ NB239_241.out _; (with_reducible repeat (first | refine blk_drewN ?_ _ | refine blk_drew ?_ | refine blk_alloc ?_ _)); refine blk_far ?_ NB239_241.out _; (with_reducible repeat (first | refine blk_drewN ?_ _ | refine blk_drew ?_ | refine blk_alloc ?_ _)); refine blk_far ?_ NB239_241.out _; (with_reducible repeat (first | refine blk_drewN ?_ _ | refine blk_drew ?_ | refine blk_alloc ?_ _)); refine blk_far ?_ NB239_241.out _; (with_reducible repeat (first | refine blk_drewN ?_ _ | refine blk_drew ?_ | refine blk_alloc ?_ _)); refine blk_far ?_ NB239_241.out _; (with_reducible repeat (first | refine blk_drewN ?_ _ | refine blk_drew ?_ | refine blk_alloc ?_ _)); refine blk_far ?_ NB239_241.out _; (with_reducible repeat (first | refine blk_drewN ?_ _ | refine blk_drew ?_ | refine blk_alloc ?_ _)); refine blk_far ?_ NB239_241.out _; (with_reducible repeat (first | refine blk_drewN ?_ _ | refine blk_drew ?_ | refine blk_alloc ?_ _)); refine blk_far ?_ NB239_241.out _; (with_reducible repeat (first | refine blk_drewN ?_ _ | refine blk_drew ?_ | refine blk_alloc ?_ _)); refine blk_far ?_ NB239_241.out _; (with_reducible repeat (first | refine blk_drewN ?_ _ | refine blk_drew ?_ | refine blk_alloc ?_ _)); exact BK239.out) hb); have n1_ := Aside0.mk (blk_below (g := gb241) (o := .cells #[.int .i64 ((rd_T59 l0_0 x12_1).f0), .int .i64 ((rd_T59 l0_0 x12_1).f1), .int .i64 ((rd_T59 l0_0 x12_1).f2), .int .i64 ((rd_T59 l0_0 x12_1).f3), .int .i64 ((rd_T59 l0_0 x12_1).f4.f0), .int .i64 ((rd_T59 l0_0 x12_1).f4.f1), .int .i64 ((rd_T59 l0_0 x12_1).f4.f2), .int .i64 ((rd_T59 l0_0 x12_1).f5), .int .i64 ((rd_T59 l0_0 x12_1).f6)] 59 (0, 0)) (by (with_reducible repeat (first | refine blk_drewN ?_ _ | refine blk_drew ?_ | refine blk_alloc ?_ _)); refine blk_put (cs := #[.int .i64 ((rd_T59 l0_0 x12_1).f0), .int .i64 ((rd_T59 l0_0 x12_1).f1), .int .i64 ((rd_T59 l0_0 x12_1).f2), .int .i64 ((rd_T59 l0_0 x12_1).f3), .int .i64 ((rd_T59 l0_0 x12_1).f4.f0), .int .i64 ((rd_T59 l0_0 x12_1).f4.f1), .int .i64 ((rd_T59 l0_0 x12_1).f4.f2), .int .i64 ((rd_T59 l0_0 x12_1).f5), .int .i64 0]) ?_ 8 _ rfl; (with_reducible repeat (first | refine blk_drewN ?_ _ | refine blk_drew ?_ | refine blk_alloc ?_ _)); refine blk_put (cs := #[.int .i64 ((rd_T59 l0_0 x12_1).f0), .int .i64 ((rd_T59 l0_0 x12_1).f1), .int .i64 ((rd_T59 l0_0 x12_1).f2), .int .i64 ((rd_T59 l0_0 x12_1).f3), .int .i64 ((rd_T59 l0_0 x12_1).f4.f0), .int .i64 ((rd_T59 l0_0 x12_1).f4.f1), .int .i64 ((rd_T59 l0_0 x12_1).f4.f2), .int .i64 0, .int .i64 0]) ?_ 7 _ rfl; (with_reducible repeat (first | refine blk_drewN ?_ _ | refine blk_drew ?_ | refine blk_alloc ?_ _)); refine blk_put (cs := #[.int .i64 ((rd_T59 l0_0 x12_1).f0), .int .i64 ((rd_T59 l0_0 x12_1).f1), .int .i64 ((rd_T59 l0_0 x12_1).f2), .int .i64 ((rd_T59 l0_0 x12_1).f3), .int .i64 ((rd_T59 l0_0 x12_1).f4.f0), .int .i64 ((rd_T59 l0_0 x12_1).f4.f1), .int .i64 0, .int .i64 0, .int .i64 0]) ?_ 6 _ rfl; (with_reducible repeat (first | refine blk_drewN ?_ _ | refine blk_drew ?_ | refine blk_alloc ?_ _)); refine blk_put (cs := #[.int .i64 ((rd_T59 l0_0 x12_1).f0), .int .i64 ((rd_T59 l0_0 x12_1).f1), .int .i64 ((rd_T59 l0_0 x12_1).f2), .int .i64 ((rd_T59 l0_0 x12_1).f3), .int .i64 ((rd_T59 l0_0 x12_1).f4.f0), .int .i64 0, .int .i64 0, .int .i64 0, .int .i64 0]) ?_ 5 _ rfl; (with_reducible repeat (first | refine blk_drewN ?_ _ | refine blk_drew ?_ | refine blk_alloc ?_ _)); refine blk_put (cs := #[.int .i64 ((rd_T59 l0_0 x12_1).f0), .int .i64 ((rd_T59 l0_0 x12_1).f1), .int .i64 ((rd_T59 l0_0 x12_1).f2), .int .i64 ((rd_T59 l0_0 x12_1).f3), .int .i64 0, .int .i64 0, .int .i64 0, .int .i64 0, .int .i64 0]) ?_ 4 _ rfl; (with_reducible repeat (first | refine blk_drewN ?_ _ | refine blk_drew ?_ | refine blk_alloc ?_ _)); refine blk_put (cs := #[.int .i64 ((rd_T59 l0_0 x12_1).f0), .int .i64 ((rd_T59 l0_0 x12_1).f1), .int .i64 ((rd_T59 l0_0 x12_1).f2), .int .i64 0, .int .i64 0, .int .i64 0, .int .i64 0, .int .i64 0, .int .i64 0]) ?_ 3 _ rfl; (with_reducible repeat (first | refine blk_drewN ?_ _ | refine blk_drew ?_ | refine blk_alloc ?_ _)); refine blk_put (cs := #[.int .i64 ((rd_T59 l0_0 x12_1).f0), .int .i64 ((rd_T59 l0_0 x12_1).f1), .int .i64 0, .int .i64 0, .int .i64 0, .int .i64 0, .int .i64 0, .int .i64 0, .int .i64 0]) ?_ 2 _ rfl; (with_reducible repeat (first | refine blk_drewN ?_ _ | refine blk_drew ?_ | refine blk_alloc ?_ _)); refine blk_put (cs := #[.int .i64 ((rd_T59 l0_0 x12_1).f0), .int .i64 0, .int .i64 0, .int .i64 0, .int .i64 0, .int .i64 0, .int .i64 0, .int .i64 0, .int .i64 0]) ?_ 1 _ rfl; (with_reducible repeat (first | refine blk_drewN ?_ _ | refine blk_drew ?_ | refine blk_alloc ?_ _)); refine blk_put (cs := #[.int .i64 0, .int .i64 0, .int .i64 0, .int .i64 0, .int .i64 0, .int .i64 0, .int .i64 0, .int .i64 0, .int .i64 0]) ?_ 0 _ rfl; (with_reducible repeat (first | refine blk_drewN ?_ _ | refine blk_drew ?_ | refine blk_alloc ?_ _)); exact BK241.out) hb); have n2_ := Aside0.mk (below_step (by repeat (first | (with_reducible first | exact HB.out | apply below_alloc | apply pw_below_drewN | apply below_drew1 | refine below_set ?_ GE239.out | refine below_set ?_ GE241.out) | exact HB.out)) hb); clear BK239; clear BK241; clear HB; have BK239 := n0_; have BK241 := n1_; have HB := n2_; clear n0_ n1_ n2_; (try clear hb); (try clear hb2); (try clear hk); (try clear hi)))
      by_cases c12 : t242 = true
      ·subst c12
       have H1 : (impl_SourceOk.l0 k1 l0_0 (l0_0.length : Int) (wrap64 (x12_1 + 1)) l0_0 l0_1 l0_2) = some r := by rw [if_pos rfl] at H; exact H
       clear H
       have H := H1
       clear H1
       have H' := Aside0.mk H
       clear H
       go_wp2
       go_roundg k1
       case measure => have := HK1.out; omega
       case rel => exact ⟨(wrap64 (x12_1 + 1)), (by first | rfl | (simp; done) | (simp [*]; done)), H', ⟨by have := HK1.out; omega⟩, ⟨by (with_reducible repeat (first | refine blk_drewN ?_ _ | refine blk_drew ?_ | refine blk_alloc ?_ _)); exact BK239.out⟩, ⟨by repeat (first | (with_reducible first | exact HB.out | apply below_alloc | apply pw_below_drewN | apply below_drew1 | refine below_set ?_ GE239.out | refine below_set ?_ GE241.out) | exact HB.out)⟩⟩
      ·replace c12 := Bool.eq_false_iff.mpr c12
       subst c12
       have H1 : (some false) = some r := by rw [if_neg (show ¬ (false = true) by decide)] at H; exact H
       clear H
       have H := H1
       clear H1
       obtain rfl := Option.some.inj H
       go_wp2
       go_ret
       exact ⟨by first | rfl | (simp [errW_none, errW_some] <;> rfl) | (simp [*, errW_none, errW_some] <;> rfl), by repeat (first | (with_reducible first | exact HB.out | apply below_alloc | apply pw_below_drewN | apply below_drew1 | refine below_set ?_ GE239.out | refine below_set ?_ GE241.out) | exact HB.out)⟩
     ·rw [if_neg c6] at H
      exact absurd H (by simp)
    ·rw [if_neg c5] at H
     exact absurd H (by simp)
   ·rw [if_neg c4] at H
    have c4b0 : decide (x12_1 < (l0_0.length : Int)) = false := decide_eq_false c4
    clear c4
    (first | rw [c4b0] | (simp only [i64_w, i32_w]; rw [c4b0]) | skip)
    have H' := Aside0.mk H
    clear H
    have hcz13_0 : wr.cell? ⟨gb239, 0, none⟩ = some (.slice A0_0 l0_0.length c0_0) := (blk_cell BK239.out 0).trans rfl
    have hcz13_1 : wr.cell? ⟨gb239, 1, none⟩ = some (.slice A0_1 l0_1.length c0_1) := (blk_cell BK239.out 1).trans rfl
    have hcz13_2 : wr.cell? ⟨gb239, 2, none⟩ = some (.slice A0_2 l0_2.length c0_2) := (blk_cell BK239.out 2).trans rfl
    have hfz13_0 := blk_frozen BK239.out 0
    have hfz13_1 := blk_frozen BK239.out 1
    have hfz13_2 := blk_frozen BK239.out 2
    go_wp2
    go_loopg [23] k1 (fun kq v23 w' => ∃ (x23_2 : Int), v23 = .int .i64 x23_2 ∧ Aside0 (impl_SourceOk.l1 kq l0_1 (l0_1.length : Int) x23_2 l0_0 l0_1 l0_2 = some r) ∧ Aside0 (kq ≤ k1) ∧ Aside0 (w'.heap[gb239]? = some (.cells #[(.slice A0_0 l0_0.length c0_0), (.slice A0_1 l0_1.length c0_1), (.slice A0_2 l0_2.length c0_2)] 36 (0, 0))) ∧ Aside0 (Below w.heap.size w w'))
    case atStart => exact ⟨(0), (by first | rfl | (simp; done) | (simp [*]; done)), H', ⟨Nat.le_refl _⟩, ⟨by (with_reducible repeat (first | refine blk_drewN ?_ _ | refine blk_drew ?_ | refine blk_alloc ?_ _)); exact BK239.out⟩, ⟨by repeat (first | (with_reducible first | exact HB.out | apply below_alloc | apply pw_below_drewN | apply below_drew1 | refine below_set ?_ GE239.out) | exact HB.out)⟩⟩
    case round =>
     clear H'
     try clear c1
     try clear c2
     try clear p2
     try clear q2
     try clear hx2
     try clear c4
     try clear c4b0
     try clear c5
     try clear c5b0
     try clear c6
     try clear c6b0
     try clear p6
     try clear c9
     try clear c12
     (try clear hcz10_0; try clear hcz10_1; try clear hcz10_2; try clear hcz10_3; try clear hcz10_4; try clear hcz10_5; try clear hcz10_6; try clear hcz10_7; try clear hcz10_8; try clear hcz13_0; try clear hcz13_1; try clear hcz13_2; try clear hcz3_0; try clear hcz3_1; try clear hcz3_2; try clear hfz10_0; try clear hfz10_1; try clear hfz10_2; try clear hfz10_3; try clear hfz10_4; try clear hfz10_5; try clear hfz10_6; try clear hfz10_7; try clear hfz10_8; try clear hfz13_0; try clear hfz13_1; try clear hfz13_2; try clear hfz3_0; try clear hfz3_1; try clear hfz3_2; try clear hx240_0; try clear hx240_1; try clear hx240_2; try clear hx240_3; try clear hx240_4; try clear hx240_5; try clear hx240_6; try clear hx240_7; try clear hx240_8)
     try clear p2
     try clear p240
     try clear q240
     obtain ⟨x23_2, rfl, HA, HK2, BK239, HB⟩ := hrel
     cases gk with
     | zero => exact absurd HA.out (by simp [impl_SourceOk.l1])
     | succ k2 =>
      have H := HA.out
      clear HA
      simp only [impl_SourceOk.l1] at H
      go_upto_if 24 with (fail)
      by_cases c14 : x23_2 < (l0_1.length : Int)
      ·rw [if_pos c14] at H
       have c14b0 : decide (x23_2 < (l0_1.length : Int)) = true := decide_eq_true c14
       clear c14
       (first | rw [c14b0] | (simp only [i64_w, i32_w]; rw [c14b0]) | skip)
       by_cases c15 : 0 ≤ x23_2
       ·rw [if_pos c15] at H
        have c15b0 : decide (0 ≤ x23_2) = true := decide_eq_true c15
        clear c15
        by_cases c16 : x23_2 < (l0_1.length : Int)
        ·rw [if_pos c16] at H
         have c16b0 : decide (x23_2 < (l0_1.length : Int)) = true := decide_eq_true c16
         clear c16
         replace H := Option.bind_eq_some_iff.mp H
         obtain ⟨t245, A170, H⟩ := H
         replace H : (if t245 = true then (if x23_2 > 0 then (if 0 ≤ (wrap64 (x23_2 - 1)) then (if (wrap64 (x23_2 - 1)) < (l0_1.length : Int) then (if ((rd_T29 l0_1 (wrap64 (x23_2 - 1))).f0) ≥ ((rd_T29 l0_1 x23_2).f0) then (some false) else (if ((rd_T29 l0_1 x23_2).f2) = 0 then (impl_SourceOk.l1 k2 l0_1 (l0_1.length : Int) (wrap64 (x23_2 + 1)) l0_0 l0_1 l0_2) else ((impl_hasRule.f l0_0 l0_1 l0_2 ((rd_T29 l0_1 x23_2).f2)).bind fun t247 => (if t247 = true then (impl_SourceOk.l1 k2 l0_1 (l0_1.length : Int) (wrap64 (x23_2 + 1)) l0_0 l0_1 l0_2) else (some false))))) else (none)) else (none)) else (if ((rd_T29 l0_1 x23_2).f2) = 0 then (impl_SourceOk.l1 k2 l0_1 (l0_1.length : Int) (wrap64 (x23_2 + 1)) l0_0 l0_1 l0_2) else ((impl_hasRule.f l0_0 l0_1 l0_2 ((rd_T29 l0_1 x23_2).f2)).bind fun t248 => (if t248 = true then (impl_SourceOk.l1 k2 l0_1 (l0_1.length : Int) (wrap64 (x23_2 + 1)) l0_0 l0_1 l0_2) else (some false))))) else (some false)) = some r := H
         have A17 := Aside0.mk A170
         clear A170
         by_cases c18 : t245 = true
         ·subst c18
          have H1 : (if x23_2 > 0 then (if 0 ≤ (wrap64 (x23_2 - 1)) then (if (wrap64 (x23_2 - 1)) < (l0_1.length : Int) then (if ((rd_T29 l0_1 (wrap64 (x23_2 - 1))).f0) ≥ ((rd_T29 l0_1 x23_2).f0) then (some false) else (if ((rd_T29 l0_1 x23_2).f2) = 0 then (impl_SourceOk.l1 k2 l0_1 (l0_1.length : Int) (wrap64 (x23_2 + 1)) l0_0 l0_1 l0_2) else ((impl_hasRule.f l0_0 l0_1 l0_2 ((rd_T29 l0_1 x23_2).f2)).bind fun t247 => (if t247 = true then (impl_SourceOk.l1 k2 l0_1 (l0_1.length : Int) (wrap64 (x23_2 + 1)) l0_0 l0_1 l0_2) else (some false))))) else (none)) else (none)) else (if ((rd_T29 l0_1 x23_2).f2) = 0 then (impl_SourceOk.l1 k2 l0_1 (l0_1.length : Int) (wrap64 (x23_2 + 1)) l0_0 l0_1 l0_2) else ((impl_hasRule.f l0_0 l0_1 l0_2 ((rd_T29 l0_1 x23_2).f2)).bind fun t248 => (if t248 = true then (impl_SourceOk.l1 k2 l0_1 (l0_1.length : Int) (wrap64 (x23_2 + 1)) l0_0 l0_1 l0_2) else (some false))))) = some r := by rw [if_pos rfl] at H; exact H
          clear H
          have H := H1
          clear H1
          by_cases c19 : x23_2 > 0
          ·rw [if_pos c19] at H
           have c19b0 : decide (0 < x23_2) = true := decide_eq_true c19
           clear c19
           obtain ⟨ji20, hji20⟩ : ∃ j_ : Int, (wrap64 (x23_2 - 1)) = j_ := ⟨_, rfl⟩
           replace H : (if 0 ≤ (ji20) then (if (ji20) < (l0_1.length : Int) then (if ((rd_T29 l0_1 (ji20)).f0) ≥ ((rd_T29 l0_1 x23_2).f0) then (some false) else (if ((rd_T29 l0_1 x23_2).f2) = 0 then (impl_SourceOk.l1 k2 l0_1 (l0_1.length : Int) (wrap64 (x23_2 + 1)) l0_0 l0_1 l0_2) else ((impl_hasRule.f l0_0 l0_1 l0_2 ((rd_T29 l0_1 x23_2).f2)).bind fun t247 => (if t247 = true then (impl_SourceOk.l1 k2 l0_1 (l0_1.length : Int) (wrap64 (x23_2 + 1)) l0_0 l0_1 l0_2) else (some false))))) else (none)) else (none)) = some r := by first | (rw [hji20] at H; exact H) | (simp only [hji20] at H ⊢; exact H)
           (try rw [hji20] at A17)
           have hji20w : (IntKind.i64.wrap (x23_2 - 1)) = ji20 := (i64_w _).trans hji20
           by_cases c21 : 0 ≤ (ji20)
           ·rw [if_pos c21] at H
            have c21b0 : decide (0 ≤ (ji20)) = true := decide_eq_true c21
            clear c21
            by_cases c22 : (ji20) < (l0_1.length : Int)
            ·rw [if_pos c22] at H
             have c22b0 : decide ((ji20) < (l0_1.length : Int)) = true := decide_eq_true c22
             clear c22
             by_cases c23 : ((rd_T29 l0_1 (ji20)).f0) ≥ ((rd_T29 l0_1 x23_2).f0)
             ·rw [if_pos c23] at H
              have c23b0 : decide (((rd_T29 l0_1 x23_2).f0) ≤ ((rd_T29 l0_1 (ji20)).f0)) = true := decide_eq_true c23
              clear c23
              obtain rfl := Option.some.inj H
              have p243 : 0 ≤ (x23_2 : Int) := of_decide_eq_true (by first | (with_reducible assumption) | assumption)
              have q243 : x23_2 < (l0_1.length : Int) := of_decide_eq_true (by first | (with_reducible assumption) | assumption)
              obtain ⟨ad243, e243, hx243_0, hx243_1, hx243_2⟩ := at_T29 HR0_1.out x23_2 p243 q243
              cases e243
              replace hx243_0 := (HB.out.cell (World.block_lt_of_cell? w _ hx243_0)).trans hx243_0
              replace hx243_1 := (HB.out.cell (World.block_lt_of_cell? w _ hx243_1)).trans hx243_1
              replace hx243_2 := (HB.out.cell (World.block_lt_of_cell? w _ hx243_2)).trans hx243_2
              replace p243 := eq_true p243
              replace q243 := eq_true q243
              try go_wp2_with (first | ((with_reducible refine gate_dst (N := 6) rfl ?_); refine box_event ?hg (N := 6) ?hd (cs := #[.int .i64 0, .int .i64 0, .int .i64 0]) (t := 29) ?hr ?_; (case hd => rfl); (case hg => rfl); (case hr => first | (go_simp; done) | (go_simp; rfl)); intro gb244 hg w24 hbox hb; have n0_ := Aside0.mk (blk_below (g := gb239) (o := .cells #[.slice A0_0 l0_0.length c0_0, .slice (some ad243) l0_1.length c0_1, .slice A0_2 l0_2.length c0_2] 36 (0, 0)) (by (with_reducible repeat (first | refine blk_drewN ?_ _ | refine blk_drew ?_ | refine blk_alloc ?_ _)); exact BK239.out) hb); have n1_ := Aside0.mk (below_step (by repeat (first | (with_reducible first | exact HB.out | apply below_alloc | apply pw_below_drewN | apply below_drew1 | refine below_set ?_ GE239.out) | exact HB.out)) hb); have n2_ := Aside0.mk (hbox); have n3_ := Aside0.mk ((by rw [hg]; exact (below_size (by repeat (first | (with_reducible first | exact HB.out | apply below_alloc | apply pw_below_drewN | apply below_drew1 | refine below_set ?_ GE239.out) | exact HB.out))) : w.heap.size ≤ gb244)); have n4_ := Aside0.mk ((by rw [hg]; exact (below_size (by repeat (first | (with_reducible first | exact HB.out | apply below_alloc | apply pw_below_drewN | apply below_drew1 | refine below_set ?_ GE239.out) | exact HB.out))) : w.heap.size ≤ gb244)); have n5_ := Aside0.mk ((by rw [hg]; exact Nat.ne_of_lt (blk_lt (g := gb239) (o := .cells #[.slice A0_0 l0_0.length c0_0, .slice (some ad243) l0_1.length c0_1, .slice A0_2 l0_2.length c0_2] 36 (0, 0)) (by (with_reducible repeat (first | refine blk_drewN ?_ _ | refine blk_drew ?_ | refine blk_alloc ?_ _)); exact BK239.out)) : gb239 ≠ gb244)); have n6_ := Aside0.mk ((by rw [hg]; exact Nat.ne_of_gt (blk_lt (g := gb239) (o := .cells #[.slice A0_0 l0_0.length c0_0, .slice (some ad243) l0_1.length c0_1, .slice A0_2 l0_2.length c0_2] 36 (0, 0)) (by (with_reducible repeat (first | refine blk_drewN ?_ _ | refine blk_drew ?_ | refine blk_alloc ?_ _)); exact BK239.out)) : gb244 ≠ gb239)); clear BK239; clear HB; have BK239 := n0_; have HB := n1_; have BK244 := n2_; have GW244 := n3_; have GE244 := n4_; have NB239_244 := n5_; have NB244_239 := n6_; clear n0_ n1_ n2_ n3_ n4_ n5_ n6_; clear hb hbox hg; have hnb25 := NB244_239.out; have hnc25 := NB239_244.out; have hcz26_0 : w24.cell? ⟨gb244, 0, none⟩ = some (.int .i64 0) := (blk_cell BK244.out 0).trans rfl; have hcz26_1 : w24.cell? ⟨gb244, 1, none⟩ = some (.int .i64 0) := (blk_cell BK244.out 1).trans rfl; have hcz26_2 : w24.cell? ⟨gb244, 2, none⟩ = some (.int .i64 0) := (blk_cell BK244.out 2).trans rfl; have hfz26_0 := blk_frozen BK244.out 0; have hfz26_1 := blk_frozen BK244.out 1; have hfz26_2 := blk_frozen BK244.out 2))
              have n0_ : Aside0 ((((w24.setCell ⟨gb244, 0, none⟩ (.int .i64 ((rd_T29 l0_1 x23_2).f0))).setCell ⟨gb244, 1, none⟩ (.int .i64 ((rd_T29 l0_1 x23_2).f1))).setCell ⟨gb244, 2, none⟩ (.int .i64 ((rd_T29 l0_1 x23_2).f2))).heap[gb239]? = some (.cells #[.slice A0_0 l0_0.length c0_0, .slice (some ad243) l0_1.length c0_1, .slice A0_2 l0_2.length c0_2] 36 (0, 0))) := ⟨by (with_reducible repeat (first | refine blk_drewN ?_ _ | refine blk_drew ?_ | refine blk_alloc ?_ _)); refine blk_far ?_ NB239_244.out _; (with_reducible repeat (first | refine blk_drewN ?_ _ | refine blk_drew ?_ | refine blk_alloc ?_ _)); refine blk_far ?_ NB239_244.out _; (with_reducible repeat (first | refine blk_drewN ?_ _ | refine blk_drew ?_ | refine blk_alloc ?_ _)); refine blk_far ?_ NB239_244.out _; (with_reducible repeat (first | refine blk_drewN ?_ _ | refine blk_drew ?_ | refine blk_alloc ?_ _)); exact BK239.out⟩
              have n1_ : Aside0 ((((w24.setCell ⟨gb244, 0, none⟩ (.int .i64 ((rd_T29 l0_1 x23_2).f0))).setCell ⟨gb244, 1, none⟩ (.int .i64 ((rd_T29 l0_1 x23_2).f1))).setCell ⟨gb244, 2, none⟩ (.int .i64 ((rd_T29 l0_1 x23_2).f2))).heap[gb244]? = some (.cells #[.int .i64 ((rd_T29 l0_1 x23_2).f0), .int .i64 ((rd_T29 l0_1 x23_2).f1), .int .i64 ((rd_T29 l0_1 x23_2).f2)] 29 (0, 0))) := ⟨by (with_reducible repeat (first | refine blk_drewN ?_ _ | refine blk_drew ?_ | refine blk_alloc ?_ _)); refine blk_put (cs := #[.int .i64 ((rd_T29 l0_1 x23_2).f0), .int .i64 ((rd_T29 l0_1 x23_2).f1), .int .i64 0]) ?_ 2 _ rfl; (with_reducible repeat (first | refine blk_drewN ?_ _ | refine blk_drew ?_ | refine blk_alloc ?_ _)); refine blk_put (cs := #[.int .i64 ((rd_T29 l0_1 x23_2).f0), .int .i64 0, .int .i64 0]) ?_ 1 _ rfl; (with_reducible repeat (first | refine blk_drewN ?_ _ | refine blk_drew ?_ | refine blk_alloc ?_ _)); refine blk_put (cs := #[.int .i64 0, .int .i64 0, .int .i64 0]) ?_ 0 _ rfl; (with_reducible repeat (first | refine blk_drewN ?_ _ | refine blk_drew ?_ | refine blk_alloc ?_ _)); exact BK244.out⟩
              have n2_ : Aside0 (Below w.heap.size w (((w24.setCell ⟨gb244, 0, none⟩ (.int .i64 ((rd_T29 l0_1 x23_2).f0))).setCell ⟨gb244, 1, none⟩ (.int .i64 ((rd_T29 l0_1 x23_2).f1))).setCell ⟨gb244, 2, none⟩ (.int .i64 ((rd_T29 l0_1 x23_2).f2)))) := ⟨by repeat (first | (with_reducible first | exact HB.out | apply below_alloc | apply pw_below_drewN | apply below_drew1 | refine below_set ?_ GE239.out | refine below_set ?_ GE244.out) | exact HB.out)⟩
              (try clear BK239)
              (try clear BK244)
              (try clear HB)
              generalize (((w24.setCell ⟨gb244, 0, none⟩ (.int .i64 ((rd_T29 l0_1 x23_2).f0))).setCell ⟨gb244, 1, none⟩ (.int .i64 ((rd_T29 l0_1 x23_2).f1))).setCell ⟨gb244, 2, none⟩ (.int .i64 ((rd_T29 l0_1 x23_2).f2))) = w27 at n0_ n1_ n2_ ⊢
              have BK239 := n0_
              have BK244 := n1_
              have HB := n2_
              clear n0_ n1_ n2_
              have n0_ := Aside0.mk (blk_drew BK239.out)
              have n1_ := Aside0.mk (blk_drew BK244.out)
              have n2_ := Aside0.mk (below_drew1 HB.out)
              clear BK239
              clear BK244
              clear HB
              have BK239 := n0_
              have BK244 := n1_
              have HB := n2_
              clear n0_ n1_ n2_
              have p246 : 0 ≤ ((ji20) : Int) := of_decide_eq_true (by first | (with_reducible assumption) | assumption)
              have q246 : (ji20) < (l0_1.length : Int) := of_decide_eq_true (by first | (with_reducible assumption) | assumption)
              obtain ⟨ad246, e246, hx246_0, hx246_1, hx246_2⟩ := at_T29 HR0_1.out (ji20) p246 q246
              have hw246_2 := hx246_2
              have hw246_1 := hx246_1
              have hw246_0 := hx246_0
              obtain rfl : ad243 = ad246 := (by injection e246)
              replace hx246_0 := (HB.out.cell (World.block_lt_of_cell? w _ hx246_0)).trans hx246_0
              replace hx246_1 := (HB.out.cell (World.block_lt_of_cell? w _ hx246_1)).trans hx246_1
              replace hx246_2 := (HB.out.cell (World.block_lt_of_cell? w _ hx246_2)).trans hx246_2
              replace p246 := eq_true p246
              replace q246 := eq_true q246
              refine start_ (n := 31) (S := fun w' => w'.cell? ⟨gb244, 0, none⟩ = some (.int .i64 ((rd_T29 l0_1 x23_2).f0)) ∧ w'.cell? ⟨gb244, 1, none⟩ = some (.int .i64 ((rd_T29 l0_1 x23_2).f1)) ∧ w'.cell? ⟨gb244, 2, none⟩ = some (.int .i64 ((rd_T29 l0_1 x23_2).f2)) ∧ w'.cell? ⟨gb239, 0, none⟩ = some (.slice A0_0 l0_0.length c0_0) ∧ w'.cell? ⟨gb239, 1, none⟩ = some (.slice (some ad243) l0_1.length c0_1) ∧ w'.cell? ⟨gb239, 2, none⟩ = some (.slice A0_2 l0_2.length c0_2) ∧ w'.cell? (ad243.add (((ji20)).toNat * 3)) = some (.int .i64 ((rd_T29 l0_1 (ji20)).f0)) ∧ w'.cell? ⟨(ad243.add (((ji20)).toNat * 3)).block, (ad243.add (((ji20)).toNat * 3)).off + 1, none⟩ = some (.int .i64 ((rd_T29 l0_1 (ji20)).f1)) ∧ w'.cell? ⟨(ad243.add (((ji20)).toNat * 3)).block, (ad243.add (((ji20)).toNat * 3)).off + 2, none⟩ = some (.int .i64 ((rd_T29 l0_1 (ji20)).f2))) (ds := []) m9_15 (by kernel_rfl) rfl rfl ⟨(blk_cell BK244.out 0).trans rfl, (blk_cell BK244.out 1).trans rfl, (blk_cell BK244.out 2).trans rfl, (blk_cell BK239.out 0).trans rfl, (blk_cell BK239.out 1).trans rfl, (blk_cell BK239.out 2).trans rfl, ((HB.out.cell (World.block_lt_of_cell? w _ hw246_0)).trans hw246_0), ((HB.out.cell (World.block_lt_of_cell? w _ hw246_1)).trans hw246_1), ((HB.out.cell (World.block_lt_of_cell? w _ hw246_2)).trans hw246_2)⟩ (fun hHeld => ?_); refine with_tabW impl_SourceOk.tab10 impl_SourceOk.bits10 (fun HT_ HW_ => ?_)
              generalize w27.drew = w28 at BK239 BK244 HB hx246_0 hx246_1 hx246_2 hHeld ⊢
              refine take_ (i := 0) (N := some 28) (v := ?_) (a' := ?_) m9_17 rfl rfl (take_ofW HT_.out HW_.out (by kernel_rfl)) (fun _ _ _ h => h) (Or.inl ⟨by rfl, ?_⟩) hHeld ?_ ?_
              rotate_left
              ·rintro w' ⟨s0, s1, s2, s3, s4, s5, s6, s7, s8⟩
               go_simp
               with_reducible rfl
              rotate_left
              ·simp only [Act.put, List.setIfInBounds_toArray, List.set_cons_zero, List.set_cons_succ, i64_w, i32_w]
               rfl
              refine one_ (i := 1) (N := some 29) m9_18 rfl rfl (one_of HT_.out (by kernel_rfl)) (by decide) (fun K hK => ?_)
              refine goes_ Try.func27 (by kernel_rfl) rfl #[.agg #[.int .i64 ((rd_T29 l0_1 x23_2).f0), .int .i64 ((rd_T29 l0_1 x23_2).f1), .int .i64 ((rd_T29 l0_1 x23_2).f2)]] (by rfl) rfl rfl (by (try simp only [List.map_toArray, List.map_cons, List.map_nil]); first | done | rfl | (simp only [List.length_drop, List.length_take]; rfl)) ?_
              with_reducible refine (impl_zoneOk.calls ((rd_T29 l0_1 x23_2).f0) ((rd_T29 l0_1 x23_2).f1) ((rd_T29 l0_1 x23_2).f2) true _ A17.out).mono ?_
              rintro e w29 ⟨rfl, hb⟩
              refine ⟨_, rfl, ?_⟩
              have n0_ := Aside0.mk (blk_below (g := gb239) (o := .cells #[.slice A0_0 l0_0.length c0_0, .slice (some ad243) l0_1.length c0_1, .slice A0_2 l0_2.length c0_2] 36 (0, 0)) (by (with_reducible repeat (first | refine blk_drewN ?_ _ | refine blk_drew ?_ | refine blk_alloc ?_ _)); exact BK239.out) hb)
              have n1_ := Aside0.mk (blk_below (g := gb244) (o := .cells #[.int .i64 ((rd_T29 l0_1 x23_2).f0), .int .i64 ((rd_T29 l0_1 x23_2).f1), .int .i64 ((rd_T29 l0_1 x23_2).f2)] 29 (0, 0)) (by (with_reducible repeat (first | refine blk_drewN ?_ _ | refine blk_drew ?_ | refine blk_alloc ?_ _)); exact BK244.out) hb)
              have n2_ := Aside0.mk (below_step (by repeat (first | (with_reducible first | exact HB.out | apply below_alloc | apply pw_below_drewN | apply below_drew1 | refine below_set ?_ GE239.out | refine below_set ?_ GE244.out) | exact HB.out)) hb)
              clear BK239
              clear BK244
              clear HB
              have BK239 := n0_
              have BK244 := n1_
              have HB := n2_
              clear n0_ n1_ n2_
              (try clear hb)
              (try clear hb2)
              (try clear hk)
              (try clear hi)
              refine hK.out _ _ ⟨(blk_cell BK244.out 0).trans rfl, (blk_cell BK244.out 1).trans rfl, (blk_cell BK244.out 2).trans rfl, (blk_cell BK239.out 0).trans rfl, (blk_cell BK239.out 1).trans rfl, (blk_cell BK239.out 2).trans rfl, ((HB.out.cell (World.block_lt_of_cell? w _ hw246_0)).trans hw246_0), ((HB.out.cell (World.block_lt_of_cell? w _ hw246_1)).trans hw246_1), ((HB.out.cell (World.block_lt_of_cell? w _ hw246_2)).trans hw246_2)⟩ (fun hHeld => ?_)
              clear hK K
              refine norm_ (a' := ?_) ?_ ?_
              rotate_left
              ·show Act.put _ (some 29) _ = _
               simp only [Act.put, List.setIfInBounds_toArray, List.set_cons_zero, List.set_cons_succ, i64_w, i32_w]
               rfl
              refine p9_ 2 (some 30) m9_20 (any_of HT_.out (by kernel_rfl)) ?_
              refine p9_ 3 (some 31) m9_22 (any_of HT_.out (by kernel_rfl)) ?_
              refine p9_ 4 (some 32) m9_24 (any_of HT_.out (by kernel_rfl)) ?_
              refine p9_ 5 (some 33) m9_26 (any_of HT_.out (by kernel_rfl)) ?_
              refine p9_ 6 (some 34) m9_28 (any_of HT_.out (by kernel_rfl)) ?_
              refine p9_ 7 (some 35) m9_30 (any_of HT_.out (by kernel_rfl)) ?_
              refine p9_ 9 (some 37) m9_67 (any_of HT_.out (by kernel_rfl)) ?_
              refine p9_ 10 (some 38) m9_69 (any_of HT_.out (by kernel_rfl)) ?_
              refine p9_ 14 (some 42) m9_71 (any_of HT_.out (by kernel_rfl)) ?_
              refine take_ (i := 8) (N := some 36) (v := ?_) (a' := ?_) m9_73 rfl rfl (take_ofW HT_.out HW_.out (by kernel_rfl)) (fun _ _ _ h => h) (Or.inl ⟨by rfl, ?_⟩) hHeld ?_ ?_
              rotate_left
              ·rintro w' ⟨s0, s1, s2, s3, s4, s5, s6, s7, s8⟩
               go_simp
               with_reducible rfl
              rotate_left
              ·simp only [Act.put, List.setIfInBounds_toArray, List.set_cons_zero, List.set_cons_succ, i64_w, i32_w]
               rfl
              refine p9_ 11 (some 39) m9_75 (any_of HT_.out (by kernel_rfl)) ?_
              refine p9_ 12 (some 40) m9_77 (any_of HT_.out (by kernel_rfl)) ?_
              refine take_ (i := 13) (N := some 41) (v := ?_) (a' := ?_) m9_36 rfl rfl (take_ofW HT_.out HW_.out (by kernel_rfl)) (fun _ _ _ h => h) (Or.inl ⟨by rfl, ?_⟩) hHeld ?_ ?_
              rotate_left
              ·rintro w' ⟨s0, s1, s2, s3, s4, s5, s6, s7, s8⟩
               go_simp
               with_reducible rfl
              rotate_left
              ·simp only [Act.put, List.setIfInBounds_toArray, List.set_cons_zero, List.set_cons_succ, i64_w, i32_w]
               rfl
              refine take_ (i := 15) (N := some 43) (v := ?_) (a' := ?_) m9_37 rfl rfl (take_ofW HT_.out HW_.out (by kernel_rfl)) (fun _ _ _ h => h) (Or.inl ⟨by rfl, ?_⟩) hHeld ?_ ?_
              rotate_left
              ·rintro w' ⟨s0, s1, s2, s3, s4, s5, s6, s7, s8⟩
               go_simp
               with_reducible rfl
              rotate_left
              ·simp only [Act.put, List.setIfInBounds_toArray, List.set_cons_zero, List.set_cons_succ, i64_w, i32_w]
               rfl
              refine p9_ 16 (some 44) m9_38 (any_of HT_.out (by kernel_rfl)) ?_
              refine p9_ 17 (some 45) m9_39 (any_of HT_.out (by kernel_rfl)) ?_
              refine p9_ 18 (some 46) m9_40 (any_of HT_.out (by kernel_rfl)) ?_
              refine p9_ 19 (some 47) m9_41 (any_of HT_.out (by kernel_rfl)) ?_
              refine u9_ 20 (some 48) m9_42 (any_of HT_.out (by kernel_rfl)) ?_
              refine u9_ 21 (some 49) m9_43 (any_of HT_.out (by kernel_rfl)) ?_
              refine u9_ 22 (some 50) m9_44 (any_of HT_.out (by kernel_rfl)) ?_
              refine u9_ 23 (some 51) m9_45 (any_of HT_.out (by kernel_rfl)) ?_
              refine u9_ 24 (some 52) m9_54 (any_of HT_.out (by kernel_rfl)) ?_
              refine u9_ 25 (some 53) m9_46 (any_of HT_.out (by kernel_rfl)) ?_
              refine u9_ 26 (some 54) m9_47 (any_of HT_.out (by kernel_rfl)) ?_
              refine u9_ 27 (some 55) m9_48 (any_of HT_.out (by kernel_rfl)) ?_
              refine u9_ 28 (some 56) m9_49 (any_of HT_.out (by kernel_rfl)) ?_
              refine u9_ 29 (some 57) m9_50 (any_of HT_.out (by kernel_rfl)) ?_
              refine p9_ 30 (some 58) m9_51 (any_of HT_.out (by kernel_rfl)) ?_
              refine done_ (done_of HT_.out (by kernel_rfl)) ?_
              try go_wp2
              go_ret
              exact ⟨by first | rfl | (simp [errW_none, errW_some] <;> rfl) | (simp only [← hji20]; first | rfl | (simp [errW_none, errW_some] <;> rfl)) | (simp [*, errW_none, errW_some] <;> rfl), by repeat (first | (with_reducible first | exact HB.out | apply below_alloc | apply pw_below_drewN | apply below_drew1 | refine below_set ?_ GE239.out | refine below_set ?_ GE244.out) | exact HB.out)⟩
             ·rw [if_neg c23] at H
              have c23b0 : decide (((rd_T29 l0_1 x23_2).f0) ≤ ((rd_T29 l0_1 (ji20)).f0)) = false := decide_eq_false c23
              clear c23
              by_cases c30 : ((rd_T29 l0_1 x23_2).f2) = 0
              ·rw [if_pos c30] at H
               have c30b0 : (((rd_T29 l0_1 x23_2).f2) == 0) = true := beq_iff_eq.mpr c30
               have c30b1 : (((rd_T29 l0_1 x23_2).f2) != 0) = false := bne_eq_false_iff_eq.mpr c30
               clear c30
               have H' := Aside0.mk H
               clear H
               have p243 : 0 ≤ (x23_2 : Int) := of_decide_eq_true (by first | (with_reducible assumption) | assumption)
               have q243 : x23_2 < (l0_1.length : Int) := of_decide_eq_true (by first | (with_reducible assumption) | assumption)
               obtain ⟨ad243, e243, hx243_0, hx243_1, hx243_2⟩ := at_T29 HR0_1.out x23_2 p243 q243
               cases e243
               replace hx243_0 := (HB.out.cell (World.block_lt_of_cell? w _ hx243_0)).trans hx243_0
               replace hx243_1 := (HB.out.cell (World.block_lt_of_cell? w _ hx243_1)).trans hx243_1
               replace hx243_2 := (HB.out.cell (World.block_lt_of_cell? w _ hx243_2)).trans hx243_2
               replace p243 := eq_true p243
               replace q243 := eq_true q243
               try go_wp2_with (first | ((with_reducible refine gate_dst (N := 6) rfl ?_); refine box_event ?hg (N := 6) ?hd (cs := #[.int .i64 0, .int .i64 0, .int .i64 0]) (t := 29) ?hr ?_; (case hd => rfl); (case hg => rfl); (case hr => first | (go_simp; done) | (go_simp; rfl)); intro gb244 hg w31 hbox hb; have n0_ := Aside0.mk (blk_below (g := gb239) (o := .cells #[.slice A0_0 l0_0.length c0_0, .slice (some ad243) l0_1.length c0_1, .slice A0_2 l0_2.length c0_2] 36 (0, 0)) (by (with_reducible repeat (first | refine blk_drewN ?_ _ | refine blk_drew ?_ | refine blk_alloc ?_ _)); exact BK239.out) hb); have n1_ := Aside0.mk (below_step (by repeat (first | (with_reducible first | exact HB.out | apply below_alloc | apply pw_below_drewN | apply below_drew1 | refine below_set ?_ GE239.out) | exact HB.out)) hb); have n2_ := Aside0.mk (hbox); have n3_ := Aside0.mk ((by rw [hg]; exact (below_size (by repeat (first | (with_reducible first | exact HB.out | apply below_alloc | apply pw_below_drewN | apply below_drew1 | refine below_set ?_ GE239.out) | exact HB.out))) : w.heap.size ≤ gb244)); have n4_ := Aside0.mk ((by rw [hg]; exact (below_size (by repeat (first | (with_reducible first | exact HB.out | apply below_alloc | apply pw_below_drewN | apply below_drew1 | refine below_set ?_ GE239.out) | exact HB.out))) : w.heap.size ≤ gb244)); have n5_ := Aside0.mk ((by rw [hg]; exact Nat.ne_of_lt (blk_lt (g := gb239) (o := .cells #[.slice A0_0 l0_0.length c0_0, .slice (some ad243) l0_1.length c0_1, .slice A0_2 l0_2.length c0_2] 36 (0, 0)) (by (with_reducible repeat (first | refine blk_drewN ?_ _ | refine blk_drew ?_ | refine blk_alloc ?_ _)); exact BK239.out)) : gb239 ≠ gb244)); have n6_ := Aside0.mk ((by rw [hg]; exact Nat.ne_of_gt (blk_lt (g := gb239) (o := .cells #[.slice A0_0 l0_0.length c0_0, .slice (some ad243) l0_1.length c0_1, .slice A0_2 l0_2.length c0_2] 36 (0, 0)) (by (with_reducible repeat (first | refine blk_drewN ?_ _ | refine blk_drew ?_ | refine blk_alloc ?_ _)); exact BK239.out)) : gb244 ≠ gb239)); clear BK239; clear HB; have BK239 := n0_; have HB := n1_; have BK244 := n2_; have GW244 := n3_; have GE244 := n4_; have NB239_244 := n5_; have NB244_239 := n6_; clear n0_ n1_ n2_ n3_ n4_ n5_ n6_; clear hb hbox hg; have hnb32 := NB244_239.out; have hnc32 := NB239_244.out; have hcz33_0 : w31.cell? ⟨gb244, 0, none⟩ = some (.int .i64 0) := (blk_cell BK244.out 0).trans rfl; have hcz33_1 : w31.cell? ⟨gb244, 1, none⟩ = some (.int .i64 0) := (blk_cell BK244.out 1).trans rfl; have hcz33_2 : w31.cell? ⟨gb244, 2, none⟩ = some (.int .i64 0) := (blk_cell BK244.out 2).trans rfl; have hfz33_0 := blk_frozen BK244.out 0; have hfz33_1 := blk_frozen BK244.out 1; have hfz33_2 := blk_frozen BK244.out 2))
               have n0_ : Aside0 ((((w31.setCell ⟨gb244, 0, none⟩ (.int .i64 ((rd_T29 l0_1 x23_2).f0))).setCell ⟨gb244, 1, none⟩ (.int .i64 ((rd_T29 l0_1 x23_2).f1))).setCell ⟨gb244, 2, none⟩ (.int .i64 ((rd_T29 l0_1 x23_2).f2))).heap[gb239]? = some (.cells #[.slice A0_0 l0_0.length c0_0, .slice (some ad243) l0_1.length c0_1, .slice A0_2 l0_2.length c0_2] 36 (0, 0))) := ⟨by (with_reducible repeat (first | refine blk_drewN ?_ _ | refine blk_drew ?_ | refine blk_alloc ?_ _)); refine blk_far ?_ NB239_244.out _; (with_reducible repeat (first | refine blk_drewN ?_ _ | refine blk_drew ?_ | refine blk_alloc ?_ _)); refine blk_far ?_ NB239_244.out _; (with_reducible repeat (first | refine blk_drewN ?_ _ | refine blk_drew ?_ | refine blk_alloc ?_ _)); refine blk_far ?_ NB239_244.out _; (with_reducible repeat (first | refine blk_drewN ?_ _ | refine blk_drew ?_ | refine blk_alloc ?_ _)); exact BK239.out⟩
               have n1_ : Aside0 ((((w31.setCell ⟨gb244, 0, none⟩ (.int .i64 ((rd_T29 l0_1 x23_2).f0))).setCell ⟨gb244, 1, none⟩ (.int .i64 ((rd_T29 l0_1 x23_2).f1))).setCell ⟨gb244, 2, none⟩ (.int .i64 ((rd_T29 l0_1 x23_2).f2))).heap[gb244]? = some (.cells #[.int .i64 ((rd_T29 l0_1 x23_2).f0), .int .i64 ((rd_T29 l0_1 x23_2).f1), .int .i64 ((rd_T29 l0_1 x23_2).f2)] 29 (0, 0))) := ⟨by (with_reducible repeat (first | refine blk_drewN ?_ _ | refine blk_drew ?_ | refine blk_alloc ?_ _)); refine blk_put (cs := #[.int .i64 ((rd_T29 l0_1 x23_2).f0), .int .i64 ((rd_T29 l0_1 x23_2).f1), .int .i64 0]) ?_ 2 _ rfl; (with_reducible repeat (first | refine blk_drewN ?_ _ | refine blk_drew ?_ | refine blk_alloc ?_ _)); refine blk_put (cs := #[.int .i64 ((rd_T29 l0_1 x23_2).f0), .int .i64 0, .int .i64 0]) ?_ 1 _ rfl; (with_reducible repeat (first | refine blk_drewN ?_ _ | refine blk_drew ?_ | refine blk_alloc ?_ _)); refine blk_put (cs := #[.int .i64 0, .int .i64 0, .int .i64 0]) ?_ 0 _ rfl; (with_reducible repeat (first | refine blk_drewN ?_ _ | refine blk_drew ?_ | refine blk_alloc ?_ _)); exact BK244.out⟩
               have n2_ : Aside0 (Below w.heap.size w (((w31.setCell ⟨gb244, 0, none⟩ (.int .i64 ((rd_T29 l0_1 x23_2).f0))).setCell ⟨gb244, 1, none⟩ (.int .i64 ((rd_T29 l0_1 x23_2).f1))).setCell ⟨gb244, 2, none⟩ (.int .i64 ((rd_T29 l0_1 x23_2).f2)))) := ⟨by repeat (first | (with_reducible first | exact HB.out | apply below_alloc | apply pw_below_drewN | apply below_drew1 | refine below_set ?_ GE239.out | refine below_set ?_ GE244.out) | exact HB.out)⟩
               (try clear BK239)
               (try clear BK244)
               (try clear HB)
               generalize (((w31.setCell ⟨gb244, 0, none⟩ (.int .i64 ((rd_T29 l0_1 x23_2).f0))).setCell ⟨gb244, 1, none⟩ (.int .i64 ((rd_T29 l0_1 x23_2).f1))).setCell ⟨gb244, 2, none⟩ (.int .i64 ((rd_T29 l0_1 x23_2).f2))) = w34 at n0_ n1_ n2_ ⊢
               have BK239 := n0_
               have BK244 := n1_
               have HB := n2_
               clear n0_ n1_ n2_
               have n0_ := Aside0.mk (blk_drew BK239.out)
               have n1_ := Aside0.mk (blk_drew BK244.out)
               have n2_ := Aside0.mk (below_drew1 HB.out)
               clear BK239
               clear BK244
               clear HB
               have BK239 := n0_
               have BK244 := n1_
               have HB := n2_
               clear n0_ n1_ n2_
               have p246 : 0 ≤ ((ji20) : Int) := of_decide_eq_true (by first | (with_reducible assumption) | assumption)
               have q246 : (ji20) < (l0_1.length : Int) := of_decide_eq_true (by first | (with_reducible assumption) | assumption)
               obtain ⟨ad246, e246, hx246_0, hx246_1, hx246_2⟩ := at_T29 HR0_1.out (ji20) p246 q246
               have hw246_2 := hx246_2
               have hw246_1 := hx246_1
               have hw246_0 := hx246_0
               obtain rfl : ad243 = ad246 := (by injection e246)
               replace hx246_0 := (HB.out.cell (World.block_lt_of_cell? w _ hx246_0)).trans hx246_0
               replace hx246_1 := (HB.out.cell (World.block_lt_of_cell? w _ hx246_1)).trans hx246_1
               replace hx246_2 := (HB.out.cell (World.block_lt_of_cell? w _ hx246_2)).trans hx246_2
               replace p246 := eq_true p246
               replace q246 := eq_true q246
               refine start_ (n := 31) (S := fun w' => w'.cell? ⟨gb244, 0, none⟩ = some (.int .i64 ((rd_T29 l0_1 x23_2).f0)) ∧ w'.cell? ⟨gb244, 1, none⟩ = some (.int .i64 ((rd_T29 l0_1 x23_2).f1)) ∧ w'.cell? ⟨gb244, 2, none⟩ = some (.int .i64 ((rd_T29 l0_1 x23_2).f2)) ∧ w'.cell? ⟨gb239, 0, none⟩ = some (.slice A0_0 l0_0.length c0_0) ∧ w'.cell? ⟨gb239, 1, none⟩ = some (.slice (some ad243) l0_1.length c0_1) ∧ w'.cell? ⟨gb239, 2, none⟩ = some (.slice A0_2 l0_2.length c0_2) ∧ w'.cell? (ad243.add (((ji20)).toNat * 3)) = some (.int .i64 ((rd_T29 l0_1 (ji20)).f0)) ∧ w'.cell? ⟨(ad243.add (((ji20)).toNat * 3)).block, (ad243.add (((ji20)).toNat * 3)).off + 1, none⟩ = some (.int .i64 ((rd_T29 l0_1 (ji20)).f1)) ∧ w'.cell? ⟨(ad243.add (((ji20)).toNat * 3)).block, (ad243.add (((ji20)).toNat * 3)).off + 2, none⟩ = some (.int .i64 ((rd_T29 l0_1 (ji20)).f2))) (ds := []) m9_15 (by kernel_rfl) rfl rfl ⟨(blk_cell BK244.out 0).trans rfl, (blk_cell BK244.out 1).trans rfl, (blk_cell BK244.out 2).trans rfl, (blk_cell BK239.out 0).trans rfl, (blk_cell BK239.out 1).trans rfl, (blk_cell BK239.out 2).trans rfl, ((HB.out.cell (World.block_lt_of_cell? w _ hw246_0)).trans hw246_0), ((HB.out.cell (World.block_lt_of_cell? w _ hw246_1)).trans hw246_1), ((HB.out.cell (World.block_lt_of_cell? w _ hw246_2)).trans hw246_2)⟩ (fun hHeld => ?_); refine with_tabW impl_SourceOk.tab10 impl_SourceOk.bits10 (fun HT_ HW_ => ?_)
               generalize w34.drew = w35 at BK239 BK244 HB hx246_0 hx246_1 hx246_2 hHeld ⊢
               refine take_ (i := 0) (N := some 28) (v := ?_) (a' := ?_) m9_17 rfl rfl (take_ofW HT_.out HW_.out (by kernel_rfl)) (fun _ _ _ h => h) (Or.inl ⟨by rfl, ?_⟩) hHeld ?_ ?_
               rotate_left
               ·rintro w' ⟨s0, s1, s2, s3, s4, s5, s6, s7, s8⟩
                go_simp
                with_reducible rfl
               rotate_left
               ·simp only [Act.put, List.setIfInBounds_toArray, List.set_cons_zero, List.set_cons_succ, i64_w, i32_w]
                rfl
               refine one_ (i := 1) (N := some 29) m9_18 rfl rfl (one_of HT_.out (by kernel_rfl)) (by decide) (fun K hK => ?_)
               refine goes_ Try.func27 (by kernel_rfl) rfl #[.agg #[.int .i64 ((rd_T29 l0_1 x23_2).f0), .int .i64 ((rd_T29 l0_1 x23_2).f1), .int .i64 ((rd_T29 l0_1 x23_2).f2)]] (by rfl) rfl rfl (by (try simp only [List.map_toArray, List.map_cons, List.map_nil]); first | done | rfl | (simp only [List.length_drop, List.length_take]; rfl)) ?_
               with_reducible refine (impl_zoneOk.calls ((rd_T29 l0_1 x23_2).f0) ((rd_T29 l0_1 x23_2).f1) ((rd_T29 l0_1 x23_2).f2) true _ A17.out).mono ?_
               rintro e w36 ⟨rfl, hb⟩
               refine ⟨_, rfl, ?_⟩
               have n0_ := Aside0.mk (blk_below (g := gb239) (o := .cells #[.slice A0_0 l0_0.length c0_0, .slice (some ad243) l0_1.length c0_1, .slice A0_2 l0_2.length c0_2] 36 (0, 0)) (by (with_reducible repeat (first | refine blk_drewN ?_ _ | refine blk_drew ?_ | refine blk_alloc ?_ _)); exact BK239.out) hb)
               have n1_ := Aside0.mk (blk_below (g := gb244) (o := .cells #[.int .i64 ((rd_T29 l0_1 x23_2).f0), .int .i64 ((rd_T29 l0_1 x23_2).f1), .int .i64 ((rd_T29 l0_1 x23_2).f2)] 29 (0, 0)) (by (with_reducible repeat (first | refine blk_drewN ?_ _ | refine blk_drew ?_ | refine blk_alloc ?_ _)); exact BK244.out) hb)
               have n2_ := Aside0.mk (below_step (by repeat (first | (with_reducible first | exact HB.out | apply below_alloc | apply pw_below_drewN | apply below_drew1 | refine below_set ?_ GE239.out | refine below_set ?_ GE244.out) | exact HB.out)) hb)
               clear BK239
               clear BK244
               clear HB
               have BK239 := n0_
               have BK244 := n1_
               have HB := n2_
               clear n0_ n1_ n2_
               (try clear hb)
               (try clear hb2)
               (try clear hk)
               (try clear hi)
               refine hK.out _ _ ⟨(blk_cell BK244.out 0).trans rfl, (blk_cell BK244.out 1).trans rfl, (blk_cell BK244.out 2).trans rfl, (blk_cell BK239.out 0).trans rfl, (blk_cell BK239.out 1).trans rfl, (blk_cell BK239.out 2).trans rfl, ((HB.out.cell (World.block_lt_of_cell? w _ hw246_0)).trans hw246_0), ((HB.out.cell (World.block_lt_of_cell? w _ hw246_1)).trans hw246_1), ((HB.out.cell (World.block_lt_of_cell? w _ hw246_2)).trans hw246_2)⟩ (fun hHeld => ?_)
               clear hK K
               refine norm_ (a' := ?_) ?_ ?_
               rotate_left
               ·show Act.put _ (some 29) _ = _
                simp only [Act.put, List.setIfInBounds_toArray, List.set_cons_zero, List.set_cons_succ, i64_w, i32_w]
                rfl
               refine p9_ 2 (some 30) m9_20 (any_of HT_.out (by kernel_rfl)) ?_
               refine p9_ 3 (some 31) m9_22 (any_of HT_.out (by kernel_rfl)) ?_
               refine p9_ 4 (some 32) m9_24 (any_of HT_.out (by kernel_rfl)) ?_
               refine p9_ 5 (some 33) m9_26 (any_of HT_.out (by kernel_rfl)) ?_
               refine p9_ 6 (some 34) m9_28 (any_of HT_.out (by kernel_rfl)) ?_
               refine p9_ 7 (some 35) m9_30 (any_of HT_.out (by kernel_rfl)) ?_
               refine p9_ 9 (some 37) m9_67 (any_of HT_.out (by kernel_rfl)) ?_
               refine p9_ 10 (some 38) m9_69 (any_of HT_.out (by kernel_rfl)) ?_
               refine p9_ 14 (some 42) m9_71 (any_of HT_.out (by kernel_rfl)) ?_
               refine take_ (i := 8) (N := some 36) (v := ?_) (a' := ?_) m9_73 rfl rfl (take_ofW HT_.out HW_.out (by kernel_rfl)) (fun _ _ _ h => h) (Or.inl ⟨by rfl, ?_⟩) hHeld ?_ ?_
               rotate_left
               ·rintro w' ⟨s0, s1, s2, s3, s4, s5, s6, s7, s8⟩
                go_simp
                with_reducible rfl
               rotate_left
               ·simp only [Act.put, List.setIfInBounds_toArray, List.set_cons_zero, List.set_cons_succ, i64_w, i32_w]
                rfl
               refine p9_ 11 (some 39) m9_75 (any_of HT_.out (by kernel_rfl)) ?_
               refine p9_ 12 (some 40) m9_77 (any_of HT_.out (by kernel_rfl)) ?_
               refine take_ (i := 13) (N := some 41) (v := ?_) (a' := ?_) m9_36 rfl rfl (take_ofW HT_.out HW_.out (by kernel_rfl)) (fun _ _ _ h => h) (Or.inl ⟨by rfl, ?_⟩) hHeld ?_ ?_
               rotate_left
               ·rintro w' ⟨s0, s1, s2, s3, s4, s5, s6, s7, s8⟩
                go_simp
                with_reducible rfl
               rotate_left
               ·simp only [Act.put, List.setIfInBounds_toArray, List.set_cons_zero, List.set_cons_succ, i64_w, i32_w]
                rfl
               refine take_ (i := 15) (N := some 43) (v := ?_) (a' := ?_) m9_37 rfl rfl (take_ofW HT_.out HW_.out (by kernel_rfl)) (fun _ _ _ h => h) (Or.inl ⟨by rfl, ?_⟩) hHeld ?_ ?_
               rotate_left
               ·rintro w' ⟨s0, s1, s2, s3, s4, s5, s6, s7, s8⟩
                go_simp
                with_reducible rfl
               rotate_left
               ·simp only [Act.put, List.setIfInBounds_toArray, List.set_cons_zero, List.set_cons_succ, i64_w, i32_w]
                rfl
               refine p9_ 16 (some 44) m9_38 (any_of HT_.out (by kernel_rfl)) ?_
               refine p9_ 17 (some 45) m9_39 (any_of HT_.out (by kernel_rfl)) ?_
               refine p9_ 18 (some 46) m9_40 (any_of HT_.out (by kernel_rfl)) ?_
               refine p9_ 19 (some 47) m9_41 (any_of HT_.out (by kernel_rfl)) ?_
               refine p9_ 20 (some 48) m9_42 (any_of HT_.out (by kernel_rfl)) ?_
               refine take_ (i := 21) (N := some 49) (v := ?_) (a' := ?_) m9_43 rfl rfl (take_ofW HT_.out HW_.out (by kernel_rfl)) (fun _ _ _ h => h) (Or.inl ⟨by rfl, ?_⟩) hHeld ?_ ?_
               rotate_left
               ·rintro w' ⟨s0, s1, s2, s3, s4, s5, s6, s7, s8⟩
                go_simp
                with_reducible rfl
               rotate_left
               ·simp only [Act.put, List.setIfInBounds_toArray, List.set_cons_zero, List.set_cons_succ, i64_w, i32_w]
                rfl
               refine p9_ 22 (some 50) m9_44 (any_of HT_.out (by kernel_rfl)) ?_
               refine p9_ 23 (some 51) m9_45 (any_of HT_.out (by kernel_rfl)) ?_
               refine u9_ 24 (some 52) m9_54 (any_of HT_.out (by kernel_rfl)) ?_
               refine u9_ 25 (some 53) m9_46 (any_of HT_.out (by kernel_rfl)) ?_
               refine u9_ 26 (some 54) m9_47 (any_of HT_.out (by kernel_rfl)) ?_
               refine u9_ 27 (some 55) m9_48 (any_of HT_.out (by kernel_rfl)) ?_
               refine u9_ 28 (some 56) m9_49 (any_of HT_.out (by kernel_rfl)) ?_
               refine p9_ 29 (some 57) m9_50 (any_of HT_.out (by kernel_rfl)) ?_
               refine p9_ 30 (some 58) m9_51 (any_of HT_.out (by kernel_rfl)) ?_
               refine done_ (done_of HT_.out (by kernel_rfl)) ?_
               try go_wp2
               go_roundg k2
               case measure => have := HK1.out; have := HK2.out; omega
               case rel => exact ⟨(wrap64 (x23_2 + 1)), (by first | rfl | (simp; done) | (simp [*]; done)), H', ⟨by have := HK1.out; have := HK2.out; omega⟩, ⟨by (with_reducible repeat (first | refine blk_drewN ?_ _ | refine blk_drew ?_ | refine blk_alloc ?_ _)); exact BK239.out⟩, ⟨by repeat (first | (with_reducible first | exact HB.out | apply below_alloc | apply pw_below_drewN | apply below_drew1 | refine below_set ?_ GE239.out | refine below_set ?_ GE244.out) | exact HB.out)⟩⟩
              ·rw [if_neg c30] at H
               have c30b0 : (((rd_T29 l0_1 x23_2).f2) == 0) = false := beq_eq_false_iff_ne.mpr c30
               have c30b1 : (((rd_T29 l0_1 x23_2).f2) != 0) = true := bne_iff_ne.mpr c30
               replace H := Option.bind_eq_some_iff.mp H
               obtain ⟨t247, A370, H⟩ := H
               replace H : (if t247 = true then (impl_SourceOk.l1 k2 l0_1 (l0_1.length : Int) (wrap64 (x23_2 + 1)) l0_0 l0_1 l0_2) else (some false)) = some r := H
               have A37 := Aside0.mk A370
               clear A370
               have p243 : 0 ≤ (x23_2 : Int) := of_decide_eq_true (by first | (with_reducible assumption) | assumption)
               have q243 : x23_2 < (l0_1.length : Int) := of_decide_eq_true (by first | (with_reducible assumption) | assumption)
               obtain ⟨ad243, e243, hx243_0, hx243_1, hx243_2⟩ := at_T29 HR0_1.out x23_2 p243 q243
               cases e243
               replace hx243_0 := (HB.out.cell (World.block_lt_of_cell? w _ hx243_0)).trans hx243_0
               replace hx243_1 := (HB.out.cell (World.block_lt_of_cell? w _ hx243_1)).trans hx243_1
               replace hx243_2 := (HB.out.cell (World.block_lt_of_cell? w _ hx243_2)).trans hx243_2
               replace p243 := eq_true p243
               replace q243 := eq_true q243
               try go_wp2_with (first | ((with_reducible refine gate_dst (N := 6) rfl ?_); refine box_event ?hg (N := 6) ?hd (cs := #[.int .i64 0, .int .i64 0, .int .i64 0]) (t := 29) ?hr ?_; (case hd => rfl); (case hg => rfl); (case hr => first | (go_simp; done) | (go_simp; rfl)); intro gb244 hg w38 hbox hb; have n0_ := Aside0.mk (blk_below (g := gb239) (o := .cells #[.slice A0_0 l0_0.length c0_0, .slice (some ad243) l0_1.length c0_1, .slice A0_2 l0_2.length c0_2] 36 (0, 0)) (by (with_reducible repeat (first | refine blk_drewN ?_ _ | refine blk_drew ?_ | refine blk_alloc ?_ _)); exact BK239.out) hb); have n1_ := Aside0.mk (below_step (by repeat (first | (with_reducible first | exact HB.out | apply below_alloc | apply pw_below_drewN | apply below_drew1 | refine below_set ?_ GE239.out) | exact HB.out)) hb); have n2_ := Aside0.mk (hbox); have n3_ := Aside0.mk ((by rw [hg]; exact (below_size (by repeat (first | (with_reducible first | exact HB.out | apply below_alloc | apply pw_below_drewN | apply below_drew1 | refine below_set ?_ GE239.out) | exact HB.out))) : w.heap.size ≤ gb244)); have n4_ := Aside0.mk ((by rw [hg]; exact (below_size (by repeat (first | (with_reducible first | exact HB.out | apply below_alloc | apply pw_below_drewN | apply below_drew1 | refine below_set ?_ GE239.out) | exact HB.out))) : w.heap.size ≤ gb244)); have n5_ := Aside0.mk ((by rw [hg]; exact Nat.ne_of_lt (blk_lt (g := gb239) (o := .cells #[.slice A0_0 l0_0.length c0_0, .slice (some ad243) l0_1.length c0_1, .slice A0_2 l0_2.length c0_2] 36 (0, 0)) (by (with_reducible repeat (first | refine blk_drewN ?_ _ | refine blk_drew ?_ | refine blk_alloc ?_ _)); exact BK239.out)) : gb239 ≠ gb244)); have n6_ := Aside0.mk ((by rw [hg]; exact Nat.ne_of_gt (blk_lt (g := gb239) (o := .cells #[.slice A0_0 l0_0.length c0_0, .slice (some ad243) l0_1.length c0_1, .slice A0_2 l0_2.length c0_2] 36 (0, 0)) (by (with_reducible repeat (first | refine blk_drewN ?_ _ | refine blk_drew ?_ | refine blk_alloc ?_ _)); exact BK239.out)) : gb244 ≠ gb239)); clear BK239; clear HB; have BK239 := n0_; have HB := n1_; have BK244 := n2_; have GW244 := n3_; have GE244 := n4_; have NB239_244 := n5_; have NB244_239 := n6_; clear n0_ n1_ n2_ n3_ n4_ n5_ n6_; clear hb hbox hg; have hnb39 := NB244_239.out; have hnc39 := NB239_244.out; have hcz40_0 : w38.cell? ⟨gb244, 0, none⟩ = some (.int .i64 0) := (blk_cell BK244.out 0).trans rfl; have hcz40_1 : w38.cell? ⟨gb244, 1, none⟩ = some (.int .i64 0) := (blk_cell BK244.out 1).trans rfl; have hcz40_2 : w38.cell? ⟨gb244, 2, none⟩ = some (.int .i64 0) := (blk_cell BK244.out 2).trans rfl; have hfz40_0 := blk_frozen BK244.out 0; have hfz40_1 := blk_frozen BK244.out 1; have hfz40_2 := blk_frozen BK244.out 2))
               have n0_ : Aside0 ((((w38.setCell ⟨gb244, 0, none⟩ (.int .i64 ((rd_T29 l0_1 x23_2).f0))).setCell ⟨gb244, 1, none⟩ (.int .i64 ((rd_T29 l0_1 x23_2).f1))).setCell ⟨gb244, 2, none⟩ (.int .i64 ((rd_T29 l0_1 x23_2).f2))).heap[gb239]? = some (.cells #[.slice A0_0 l0_0.length c0_0, .slice (some ad243) l0_1.length c0_1, .slice A0_2 l0_2.length c0_2] 36 (0, 0))) := ⟨by (with_reducible repeat (first | refine blk_drewN ?_ _ | refine blk_drew ?_ | refine blk_alloc ?_ _)); refine blk_far ?_ NB239_244.out _; (with_reducible repeat (first | refine blk_drewN ?_ _ | refine blk_drew ?_ | refine blk_alloc ?_ _)); refine blk_far ?_ NB239_244.out _; (with_reducible repeat (first | refine blk_drewN ?_ _ | refine blk_drew ?_ | refine blk_alloc ?_ _)); refine blk_far ?_ NB239_244.out _; (with_reducible repeat (first | refine blk_drewN ?_ _ | refine blk_drew ?_ | refine blk_alloc ?_ _)); exact BK239.out⟩
               have n1_ : Aside0 ((((w38.setCell ⟨gb244, 0, none⟩ (.int .i64 ((rd_T29 l0_1 x23_2).f0))).setCell ⟨gb244, 1, none⟩ (.int .i64 ((rd_T29 l0_1 x23_2).f1))).setCell ⟨gb244, 2, none⟩ (.int .i64 ((rd_T29 l0_1 x23_2).f2))).heap[gb244]? = some (.cells #[.int .i64 ((rd_T29 l0_1 x23_2).f0), .int .i64 ((rd_T29 l0_1 x23_2).f1), .int .i64 ((rd_T29 l0_1 x23_2).f2)] 29 (0, 0))) := ⟨by (with_reducible repeat (first | refine blk_drewN ?_ _ | refine blk_drew ?_ | refine blk_alloc ?_ _)); refine blk_put (cs := #[.int .i64 ((rd_T29 l0_1 x23_2).f0), .int .i64 ((rd_T29 l0_1 x23_2).f1), .int .i64 0]) ?_ 2 _ rfl; (with_reducible repeat (first | refine blk_drewN ?_ _ | refine blk_drew ?_ | refine blk_alloc ?_ _)); refine blk_put (cs := #[.int .i64 ((rd_T29 l0_1 x23_2).f0), .int .i64 0, .int .i64 0]) ?_ 1 _ rfl; (with_reducible repeat (first | refine blk_drewN ?_ _ | refine blk_drew ?_ | refine blk_alloc ?_ _)); refine blk_put (cs := #[.int .i64 0, .int .i64 0, .int .i64 0]) ?_ 0 _ rfl; (with_reducible repeat (first | refine blk_drewN ?_ _ | refine blk_drew ?_ | refine blk_alloc ?_ _)); exact BK244.out⟩
               have n2_ : Aside0 (Below w.heap.size w (((w38.setCell ⟨gb244, 0, none⟩ (.int .i64 ((rd_T29 l0_1 x23_2).f0))).setCell ⟨gb244, 1, none⟩ (.int .i64 ((rd_T29 l0_1 x23_2).f1))).setCell ⟨gb244, 2, none⟩ (.int .i64 ((rd_T29 l0_1 x23_2).f2)))) := ⟨by repeat (first | (with_reducible first | exact HB.out | apply below_alloc | apply pw_below_drewN | apply below_drew1 | refine below_set ?_ GE239.out | refine below_set ?_ GE244.out) | exact HB.out)⟩
               (try clear BK239)
               (try clear BK244)
               (try clear HB)
               generalize (((w38.setCell ⟨gb244, 0, none⟩ (.int .i64 ((rd_T29 l0_1 x23_2).f0))).setCell ⟨gb244, 1, none⟩ (.int .i64 ((rd_T29 l0_1 x23_2).f1))).setCell ⟨gb244, 2, none⟩ (.int .i64 ((rd_T29 l0_1 x23_2).f2))) = w41 at n0_ n1_ n2_ ⊢
               have BK239 := n0_
               have BK244 := n1_
               have HB := n2_
               clear n0_ n1_ n2_
               have n0_ := Aside0.mk (blk_drew BK239.out)
               have n1_ := Aside0.mk (blk_drew BK244.out)
               have n2_ := Aside0.mk (below_drew1 HB.out)
               clear BK239
               clear BK244
               clear HB
               have BK239 := n0_
               have BK244 := n1_
               have HB := n2_
               clear n0_ n1_ n2_
               have p246 : 0 ≤ ((ji20) : Int) := of_decide_eq_true (by first | (with_reducible assumption) | assumption)
               have q246 : (ji20) < (l0_1.length : Int) := of_decide_eq_true (by first | (with_reducible assumption) | assumption)
               obtain ⟨ad246, e246, hx246_0, hx246_1, hx246_2⟩ := at_T29 HR0_1.out (ji20) p246 q246
               have hw246_2 := hx246_2
               have hw246_1 := hx246_1
               have hw246_0 := hx246_0
               obtain rfl : ad243 = ad246 := (by injection e246)
               replace hx246_0 := (HB.out.cell (World.block_lt_of_cell? w _ hx246_0)).trans hx246_0
               replace hx246_1 := (HB.out.cell (World.block_lt_of_cell? w _ hx246_1)).trans hx246_1
               replace hx246_2 := (HB.out.cell (World.block_lt_of_cell? w _ hx246_2)).trans hx246_2
               replace p246 := eq_true p246
               replace q246 := eq_true q246
               refine start_ (n := 31) (S := fun w' => w'.cell? ⟨gb244, 0, none⟩ = some (.int .i64 ((rd_T29 l0_1 x23_2).f0)) ∧ w'.cell? ⟨gb244, 1, none⟩ = some (.int .i64 ((rd_T29 l0_1 x23_2).f1)) ∧ w'.cell? ⟨gb244, 2, none⟩ = some (.int .i64 ((rd_T29 l0_1 x23_2).f2)) ∧ w'.cell? ⟨gb239, 0, none⟩ = some (.slice A0_0 l0_0.length c0_0) ∧ w'.cell? ⟨gb239, 1, none⟩ = some (.slice (some ad243) l0_1.length c0_1) ∧ w'.cell? ⟨gb239, 2, none⟩ = some (.slice A0_2 l0_2.length c0_2) ∧ w'.cell? (ad243.add (((ji20)).toNat * 3)) = some (.int .i64 ((rd_T29 l0_1 (ji20)).f0)) ∧ w'.cell? ⟨(ad243.add (((ji20)).toNat * 3)).block, (ad243.add (((ji20)).toNat * 3)).off + 1, none⟩ = some (.int .i64 ((rd_T29 l0_1 (ji20)).f1)) ∧ w'.cell? ⟨(ad243.add (((ji20)).toNat * 3)).block, (ad243.add (((ji20)).toNat * 3)).off + 2, none⟩ = some (.int .i64 ((rd_T29 l0_1 (ji20)).f2))) (ds := []) m9_15 (by kernel_rfl) rfl rfl ⟨(blk_cell BK244.out 0).trans rfl, (blk_cell BK244.out 1).trans rfl, (blk_cell BK244.out 2).trans rfl, (blk_cell BK239.out 0).trans rfl, (blk_cell BK239.out 1).trans rfl, (blk_cell BK239.out 2).trans rfl, ((HB.out.cell (World.block_lt_of_cell? w _ hw246_0)).trans hw246_0), ((HB.out.cell (World.block_lt_of_cell? w _ hw246_1)).trans hw246_1), ((HB.out.cell (World.block_lt_of_cell? w _ hw246_2)).trans hw246_2)⟩ (fun hHeld => ?_); refine with_tabW impl_SourceOk.tab10 impl_SourceOk.bits10 (fun HT_ HW_ => ?_)
               generalize w41.drew = w42 at BK239 BK244 HB hx246_0 hx246_1 hx246_2 hHeld ⊢
               refine take_ (i := 0) (N := some 28) (v := ?_) (a' := ?_) m9_17 rfl rfl (take_ofW HT_.out HW_.out (by kernel_rfl)) (fun _ _ _ h => h) (Or.inl ⟨by rfl, ?_⟩) hHeld ?_ ?_
               rotate_left
               ·rintro w' ⟨s0, s1, s2, s3, s4, s5, s6, s7, s8⟩
                go_simp
                with_reducible rfl
               rotate_left
               ·simp only [Act.put, List.setIfInBounds_toArray, List.set_cons_zero, List.set_cons_succ, i64_w, i32_w]
                rfl
               refine one_ (i := 1) (N := some 29) m9_18 rfl rfl (one_of HT_.out (by kernel_rfl)) (by decide) (fun K hK => ?_)
               refine goes_ Try.func27 (by kernel_rfl) rfl #[.agg #[.int .i64 ((rd_T29 l0_1 x23_2).f0), .int .i64 ((rd_T29 l0_1 x23_2).f1), .int .i64 ((rd_T29 l0_1 x23_2).f2)]] (by rfl) rfl rfl (by (try simp only [List.map_toArray, List.map_cons, List.map_nil]); first | done | rfl | (simp only [List.length_drop, List.length_take]; rfl)) ?_
               with_reducible refine (impl_zoneOk.calls ((rd_T29 l0_1 x23_2).f0) ((rd_T29 l0_1 x23_2).f1) ((rd_T29 l0_1 x23_2).f2) true _ A17.out).mono ?_
               rintro e w43 ⟨rfl, hb⟩
               refine ⟨_, rfl, ?_⟩
               have n0_ := Aside0.mk (blk_below (g := gb239) (o := .cells #[.slice A0_0 l0_0.length c0_0, .slice (some ad243) l0_1.length c0_1, .slice A0_2 l0_2.length c0_2] 36 (0, 0)) (by (with_reducible repeat (first | refine blk_drewN ?_ _ | refine blk_drew ?_ | refine blk_alloc ?_ _)); exact BK239.out) hb)
               have n1_ := Aside0.mk (blk_below (g := gb244) (o := .cells #[.int .i64 ((rd_T29 l0_1 x23_2).f0), .int .i64 ((rd_T29 l0_1 x23_2).f1), .int .i64 ((rd_T29 l0_1 x23_2).f2)] 29 (0, 0)) (by (with_reducible repeat (first | refine blk_drewN ?_ _ | refine blk_drew ?_ | refine blk_alloc ?_ _)); exact BK244.out) hb)
               have n2_ := Aside0.mk (below_step (by repeat (first | (with_reducible first | exact HB.out | apply below_alloc | apply pw_below_drewN | apply below_drew1 | refine below_set ?_ GE239.out | refine below_set ?_ GE244.out) | exact HB.out)) hb)
               clear BK239
               clear BK244
               clear HB
               have BK239 := n0_
               have BK244 := n1_
               have HB := n2_
               clear n0_ n1_ n2_
               (try clear hb)
               (try clear hb2)
               (try clear hk)
               (try clear hi)
               refine hK.out _ _ ⟨(blk_cell BK244.out 0).trans rfl, (blk_cell BK244.out 1).trans rfl, (blk_cell BK244.out 2).trans rfl, (blk_cell BK239.out 0).trans rfl, (blk_cell BK239.out 1).trans rfl, (blk_cell BK239.out 2).trans rfl, ((HB.out.cell (World.block_lt_of_cell? w _ hw246_0)).trans hw246_0), ((HB.out.cell (World.block_lt_of_cell? w _ hw246_1)).trans hw246_1), ((HB.out.cell (World.block_lt_of_cell? w _ hw246_2)).trans hw246_2)⟩ (fun hHeld => ?_)
               clear hK K
               refine norm_ (a' := ?_) ?_ ?_
               rotate_left
               ·show Act.put _ (some 29) _ = _
                simp only [Act.put, List.setIfInBounds_toArray, List.set_cons_zero, List.set_cons_succ, i64_w, i32_w]
                rfl
               refine p9_ 2 (some 30) m9_20 (any_of HT_.out (by kernel_rfl)) ?_
               refine p9_ 3 (some 31) m9_22 (any_of HT_.out (by kernel_rfl)) ?_
               refine p9_ 4 (some 32) m9_24 (any_of HT_.out (by kernel_rfl)) ?_
               refine p9_ 5 (some 33) m9_26 (any_of HT_.out (by kernel_rfl)) ?_
               refine p9_ 6 (some 34) m9_28 (any_of HT_.out (by kernel_rfl)) ?_
               refine p9_ 7 (some 35) m9_30 (any_of HT_.out (by kernel_rfl)) ?_
               refine p9_ 9 (some 37) m9_67 (any_of HT_.out (by kernel_rfl)) ?_
               refine p9_ 10 (some 38) m9_69 (any_of HT_.out (by kernel_rfl)) ?_
               refine p9_ 14 (some 42) m9_71 (any_of HT_.out (by kernel_rfl)) ?_
               refine take_ (i := 8) (N := some 36) (v := ?_) (a' := ?_) m9_73 rfl rfl (take_ofW HT_.out HW_.out (by kernel_rfl)) (fun _ _ _ h => h) (Or.inl ⟨by rfl, ?_⟩) hHeld ?_ ?_
               rotate_left
               ·rintro w' ⟨s0, s1, s2, s3, s4, s5, s6, s7, s8⟩
                go_simp
                with_reducible rfl
               rotate_left
               ·simp only [Act.put, List.setIfInBounds_toArray, List.set_cons_zero, List.set_cons_succ, i64_w, i32_w]
                rfl
               refine p9_ 11 (some 39) m9_75 (any_of HT_.out (by kernel_rfl)) ?_
               refine p9_ 12 (some 40) m9_77 (any_of HT_.out (by kernel_rfl)) ?_
               refine take_ (i := 13) (N := some 41) (v := ?_) (a' := ?_) m9_36 rfl rfl (take_ofW HT_.out HW_.out (by kernel_rfl)) (fun _ _ _ h => h) (Or.inl ⟨by rfl, ?_⟩) hHeld ?_ ?_
               rotate_left
               ·rintro w' ⟨s0, s1, s2, s3, s4, s5, s6, s7, s8⟩
                go_simp
                with_reducible rfl
               rotate_left
               ·simp only [Act.put, List.setIfInBounds_toArray, List.set_cons_zero, List.set_cons_succ, i64_w, i32_w]
                rfl
               refine take_ (i := 15) (N := some 43) (v := ?_) (a' := ?_) m9_37 rfl rfl (take_ofW HT_.out HW_.out (by kernel_rfl)) (fun _ _ _ h => h) (Or.inl ⟨by rfl, ?_⟩) hHeld ?_ ?_
               rotate_left
               ·rintro w' ⟨s0, s1, s2, s3, s4, s5, s6, s7, s8⟩
                go_simp
                with_reducible rfl
               rotate_left
               ·simp only [Act.put, List.setIfInBounds_toArray, List.set_cons_zero, List.set_cons_succ, i64_w, i32_w]
                rfl
               refine p9_ 16 (some 44) m9_38 (any_of HT_.out (by kernel_rfl)) ?_
               refine p9_ 17 (some 45) m9_39 (any_of HT_.out (by kernel_rfl)) ?_
               refine p9_ 18 (some 46) m9_40 (any_of HT_.out (by kernel_rfl)) ?_
               refine p9_ 19 (some 47) m9_41 (any_of HT_.out (by kernel_rfl)) ?_
               refine p9_ 20 (some 48) m9_42 (any_of HT_.out (by kernel_rfl)) ?_
               refine take_ (i := 21) (N := some 49) (v := ?_) (a' := ?_) m9_43 rfl rfl (take_ofW HT_.out HW_.out (by kernel_rfl)) (fun _ _ _ h => h) (Or.inl ⟨by rfl, ?_⟩) hHeld ?_ ?_
               rotate_left
               ·rintro w' ⟨s0, s1, s2, s3, s4, s5, s6, s7, s8⟩
                go_simp
                with_reducible rfl
               rotate_left
               ·simp only [Act.put, List.setIfInBounds_toArray, List.set_cons_zero, List.set_cons_succ, i64_w, i32_w]
                rfl
               refine p9_ 22 (some 50) m9_44 (any_of HT_.out (by kernel_rfl)) ?_
               refine p9_ 23 (some 51) m9_45 (any_of HT_.out (by kernel_rfl)) ?_
               refine p9_ 25 (some 53) m9_81 (any_of HT_.out (by kernel_rfl)) ?_
               refine take_ (i := 24) (N := some 52) (v := ?_) (a' := ?_) m9_46 rfl rfl (take_ofW HT_.out HW_.out (by kernel_rfl)) (fun _ _ _ h => h) (Or.inl ⟨by rfl, ?_⟩) hHeld ?_ ?_
               rotate_left
               ·rintro w' ⟨s0, s1, s2, s3, s4, s5, s6, s7, s8⟩
                go_simp
                with_reducible rfl
               rotate_left
               ·simp only [Act.put, List.setIfInBounds_toArray, List.set_cons_zero, List.set_cons_succ, i64_w, i32_w]
                rfl
               refine take_ (i := 26) (N := some 54) (v := ?_) (a' := ?_) m9_47 rfl rfl (take_ofW HT_.out HW_.out (by kernel_rfl)) (fun _ _ _ h => h) (Or.inl ⟨by rfl, ?_⟩) hHeld ?_ ?_
               rotate_left
               ·rintro w' ⟨s0, s1, s2, s3, s4, s5, s6, s7, s8⟩
                go_simp
                with_reducible rfl
               rotate_left
               ·simp only [Act.put, List.setIfInBounds_toArray, List.set_cons_zero, List.set_cons_succ, i64_w, i32_w]
                rfl
               refine one_ (i := 27) (N := some 55) m9_48 rfl rfl (one_of HT_.out (by kernel_rfl)) (by decide) (fun K hK => ?_)
               refine goes_ Try.func28 (by kernel_rfl) rfl #[.agg #[.slice A0_0 l0_0.length c0_0, .slice (some ad243) l0_1.length c0_1, .slice A0_2 l0_2.length c0_2], .int .i64 ((rd_T29 l0_1 x23_2).f2)] (by rfl) rfl rfl (by (try simp only [List.map_toArray, List.map_cons, List.map_nil]); first | done | rfl | (simp only [List.length_drop, List.length_take]; rfl)) ?_
               with_reducible refine (impl_hasRule.calls _ _ l0_0 _ _ l0_1 _ _ l0_2 ((rd_T29 l0_1 x23_2).f2) t247 _ ?side1 ?side2 ?side3 ?side4 ?side5 ?side6 A37.out).mono ?_
               (case side1 => repeat (first | exact (Kd.C_below HR0_0.out HB.out) | (with_reducible refine Kd.C_alloc ?_ _) | (with_reducible refine Kd.C_drewN ?_ _) | (with_reducible refine Kd.C_drew ?_)))
               (case side2 => exact HC0_0.out)
               (case side3 => repeat (first | exact (Kd.C_below HR0_1.out HB.out) | (with_reducible refine Kd.C_alloc ?_ _) | (with_reducible refine Kd.C_drewN ?_ _) | (with_reducible refine Kd.C_drew ?_)))
               (case side4 => exact HC0_1.out)
               (case side5 => repeat (first | exact (Kd.C_below HR0_2.out HB.out) | (with_reducible refine Kd.C_alloc ?_ _) | (with_reducible refine Kd.C_drewN ?_ _) | (with_reducible refine Kd.C_drew ?_)))
               (case side6 => exact HC0_2.out)
               rintro e w44 ⟨rfl, hb⟩
               refine ⟨_, rfl, ?_⟩
               have n0_ := Aside0.mk (blk_below (g := gb239) (o := .cells #[.slice A0_0 l0_0.length c0_0, .slice (some ad243) l0_1.length c0_1, .slice A0_2 l0_2.length c0_2] 36 (0, 0)) (by (with_reducible repeat (first | refine blk_drewN ?_ _ | refine blk_drew ?_ | refine blk_alloc ?_ _)); exact BK239.out) hb)
               have n1_ := Aside0.mk (blk_below (g := gb244) (o := .cells #[.int .i64 ((rd_T29 l0_1 x23_2).f0), .int .i64 ((rd_T29 l0_1 x23_2).f1), .int .i64 ((rd_T29 l0_1 x23_2).f2)] 29 (0, 0)) (by (with_reducible repeat (first | refine blk_drewN ?_ _ | refine blk_drew ?_ | refine blk_alloc ?_ _)); exact BK244.out) hb)
               have n2_ := Aside0.mk (below_step (by repeat (first | (with_reducible first | exact HB.out | apply below_alloc | apply pw_below_drewN | apply below_drew1 | refine below_set ?_ GE239.out | refine below_set ?_ GE244.out) | exact HB.out)) hb)
               clear BK239
               clear BK244
               clear HB
               have BK239 := n0_
               have BK244 := n1_
               have HB := n2_
               clear n0_ n1_ n2_
               (try clear hb)
               (try clear hb2)
               (try clear hk)
               (try clear hi)
               refine hK.out _ _ ⟨(blk_cell BK244.out 0).trans rfl, (blk_cell BK244.out 1).trans rfl, (blk_cell BK244.out 2).trans rfl, (blk_cell BK239.out 0).trans rfl, (blk_cell BK239.out 1).trans rfl, (blk_cell BK239.out 2).trans rfl, ((HB.out.cell (World.block_lt_of_cell? w _ hw246_0)).trans hw246_0), ((HB.out.cell (World.block_lt_of_cell? w _ hw246_1)).trans hw246_1), ((HB.out.cell (World.block_lt_of_cell? w _ hw246_2)).trans hw246_2)⟩ (fun hHeld => ?_)
               clear hK K
               refine norm_ (a' := ?_) ?_ ?_
               rotate_left
               ·show Act.put _ (some 55) _ = _
                simp only [Act.put, List.setIfInBounds_toArray, List.set_cons_zero, List.set_cons_succ, i64_w, i32_w]
                rfl
               refine p9_ 28 (some 56) m9_49 (any_of HT_.out (by kernel_rfl)) ?_
               refine p9_ 29 (some 57) m9_50 (any_of HT_.out (by kernel_rfl)) ?_
               refine p9_ 30 (some 58) m9_51 (any_of HT_.out (by kernel_rfl)) ?_
               refine done_ (done_of HT_.out (by kernel_rfl)) ?_
               go_upto_if 58 with (fail)
               by_cases c45 : t247 = true
               ·subst c45
                have H1 : (impl_SourceOk.l1 k2 l0_1 (l0_1.length : Int) (wrap64 (x23_2 + 1)) l0_0 l0_1 l0_2) = some r := by rw [if_pos rfl] at H; exact H
                clear H
                have H := H1
                clear H1
                have H' := Aside0.mk H
                clear H
                go_wp2
                go_roundg k2
                case measure => have := HK1.out; have := HK2.out; omega
                case rel => exact ⟨(wrap64 (x23_2 + 1)), (by first | rfl | (simp; done) | (simp [*]; done)), H', ⟨by have := HK1.out; have := HK2.out; omega⟩, ⟨by (with_reducible repeat (first | refine blk_drewN ?_ _ | refine blk_drew ?_ | refine blk_alloc ?_ _)); exact BK239.out⟩, ⟨by repeat (first | (with_reducible first | exact HB.out | apply below_alloc | apply pw_below_drewN | apply below_drew1 | refine below_set ?_ GE239.out | refine below_set ?_ GE244.out) | exact HB.out)⟩⟩
               ·replace c45 := Bool.eq_false_iff.mpr c45
                subst c45
                have H1 : (some false) = some r := by rw [if_neg (show ¬ (false = true) by decide)] at H; exact H
                clear H
                have H := H1
                clear H1
                obtain rfl := Option.some.inj H
                go_wp2
                go_ret
                exact ⟨by first | rfl | (simp [errW_none, errW_some] <;> rfl) | (simp only [← hji20]; first | rfl | (simp [errW_none, errW_some] <;> rfl)) | (simp [*, errW_none, errW_some] <;> rfl), by repeat (first | (with_reducible first | exact HB.out | apply below_alloc | apply pw_below_drewN | apply below_drew1 | refine below_set ?_ GE239.out | refine below_set ?_ GE244.out) | exact HB.out)⟩
            ·rw [if_neg c22] at H
             exact absurd H (by simp)
           ·rw [if_neg c21] at H
            exact absurd H (by simp)
          ·rw [if_neg c19] at H
           have c19b0 : decide (0 < x23_2) = false := decide_eq_false c19
           clear c19
           by_cases c46 : ((rd_T29 l0_1 x23_2).f2) = 0
           ·rw [if_pos c46] at H
            have c46b0 : (((rd_T29 l0_1 x23_2).f2) == 0) = true := beq_iff_eq.mpr c46
            have c46b1 : (((rd_T29 l0_1 x23_2).f2) != 0) = false := bne_eq_false_iff_eq.mpr c46
            clear c46
            have H' := Aside0.mk H
            clear H
            have p243 : 0 ≤ (x23_2 : Int) := of_decide_eq_true (by first | (with_reducible assumption) | assumption)
            have q243 : x23_2 < (l0_1.length : Int) := of_decide_eq_true (by first | (with_reducible assumption) | assumption)
            obtain ⟨ad243, e243, hx243_0, hx243_1, hx243_2⟩ := at_T29 HR0_1.out x23_2 p243 q243
            cases e243
            replace hx243_0 := (HB.out.cell (World.block_lt_of_cell? w _ hx243_0)).trans hx243_0
            replace hx243_1 := (HB.out.cell (World.block_lt_of_cell? w _ hx243_1)).trans hx243_1
            replace hx243_2 := (HB.out.cell (World.block_lt_of_cell? w _ hx243_2)).trans hx243_2
            replace p243 := eq_true p243
            replace q243 := eq_true q243
            try go_wp2_with (first | ((with_reducible refine gate_dst (N := 6) rfl ?_); refine box_event ?hg (N := 6) ?hd (cs := #[.int .i64 0, .int .i64 0, .int .i64 0]) (t := 29) ?hr ?_; (case hd => rfl); (case hg => rfl); (case hr => first | (go_simp; done) | (go_simp; rfl)); intro gb244 hg w47 hbox hb; have n0_ := Aside0.mk (blk_below (g := gb239) (o := .cells #[.slice A0_0 l0_0.length c0_0, .slice (some ad243) l0_1.length c0_1, .slice A0_2 l0_2.length c0_2] 36 (0, 0)) (by (with_reducible repeat (first | refine blk_drewN ?_ _ | refine blk_drew ?_ | refine blk_alloc ?_ _)); exact BK239.out) hb); have n1_ := Aside0.mk (below_step (by repeat (first | (with_reducible first | exact HB.out | apply below_alloc | apply pw_below_drewN | apply below_drew1 | refine below_set ?_ GE239.out) | exact HB.out)) hb); have n2_ := Aside0.mk (hbox); have n3_ := Aside0.mk ((by rw [hg]; exact (below_size (by repeat (first | (with_reducible first | exact HB.out | apply below_alloc | apply pw_below_drewN | apply below_drew1 | refine below_set ?_ GE239.out) | exact HB.out))) : w.heap.size ≤ gb244)); have n4_ := Aside0.mk ((by rw [hg]; exact (below_size (by repeat (first | (with_reducible first | exact HB.out | apply below_alloc | apply pw_below_drewN | apply below_drew1 | refine below_set ?_ GE239.out) | exact HB.out))) : w.heap.size ≤ gb244)); have n5_ := Aside0.mk ((by rw [hg]; exact Nat.ne_of_lt (blk_lt (g := gb239) (o := .cells #[.slice A0_0 l0_0.length c0_0, .slice (some ad243) l0_1.length c0_1, .slice A0_2 l0_2.length c0_2] 36 (0, 0)) (by (with_reducible repeat (first | refine blk_drewN ?_ _ | refine blk_drew ?_ | refine blk_alloc ?_ _)); exact BK239.out)) : gb239 ≠ gb244)); have n6_ := Aside0.mk ((by rw [hg]; exact Nat.ne_of_gt (blk_lt (g := gb239) (o := .cells #[.slice A0_0 l0_0.length c0_0, .slice (some ad243) l0_1.length c0_1, .slice A0_2 l0_2.length c0_2] 36 (0, 0)) (by (with_reducible repeat (first | refine blk_drewN ?_ _ | refine blk_drew ?_ | refine blk_alloc ?_ _)); exact BK239.out)) : gb244 ≠ gb239)); clear BK239; clear HB; have BK239 := n0_; have HB := n1_; have BK244 := n2_; have GW244 := n3_; have GE244 := n4_; have NB239_244 := n5_; have NB244_239 := n6_; clear n0_ n1_ n2_ n3_ n4_ n5_ n6_; clear hb hbox hg; have hnb48 := NB244_239.out; have hnc48 := NB239_244.out; have hcz49_0 : w47.cell? ⟨gb244, 0, none⟩ = some (.int .i64 0) := (blk_cell BK244.out 0).trans rfl; have hcz49_1 : w47.cell? ⟨gb244, 1, none⟩ = some (.int .i64 0) := (blk_cell BK244.out 1).trans rfl; have hcz49_2 : w47.cell? ⟨gb244, 2, none⟩ = some (.int .i64 0) := (blk_cell BK244.out 2).trans rfl; have hfz49_0 := blk_frozen BK244.out 0; have hfz49_1 := blk_frozen BK244.out 1; have hfz49_2 := blk_frozen BK244.out 2))
            have n0_ : Aside0 ((((w47.setCell ⟨gb244, 0, none⟩ (.int .i64 ((rd_T29 l0_1 x23_2).f0))).setCell ⟨gb244, 1, none⟩ (.int .i64 ((rd_T29 l0_1 x23_2).f1))).setCell ⟨gb244, 2, none⟩ (.int .i64 ((rd_T29 l0_1 x23_2).f2))).heap[gb239]? = some (.cells #[.slice A0_0 l0_0.length c0_0, .slice (some ad243) l0_1.length c0_1, .slice A0_2 l0_2.length c0_2] 36 (0, 0))) := ⟨by (with_reducible repeat (first | refine blk_drewN ?_ _ | refine blk_drew ?_ | refine blk_alloc ?_ _)); refine blk_far ?_ NB239_244.out _; (with_reducible repeat (first | refine blk_drewN ?_ _ | refine blk_drew ?_ | refine blk_alloc ?_ _)); refine blk_far ?_ NB239_244.out _; (with_reducible repeat (first | refine blk_drewN ?_ _ | refine blk_drew ?_ | refine blk_alloc ?_ _)); refine blk_far ?_ NB239_244.out _; (with_reducible repeat (first | refine blk_drewN ?_ _ | refine blk_drew ?_ | refine blk_alloc ?_ _)); exact BK239.out⟩
            have n1_ : Aside0 ((((w47.setCell ⟨gb244, 0, none⟩ (.int .i64 ((rd_T29 l0_1 x23_2).f0))).setCell ⟨gb244, 1, none⟩ (.int .i64 ((rd_T29 l0_1 x23_2).f1))).setCell ⟨gb244, 2, none⟩ (.int .i64 ((rd_T29 l0_1 x23_2).f2))).heap[gb244]? = some (.cells #[.int .i64 ((rd_T29 l0_1 x23_2).f0), .int .i64 ((rd_T29 l0_1 x23_2).f1), .int .i64 ((rd_T29 l0_1 x23_2).f2)] 29 (0, 0))) := ⟨by (with_reducible repeat (first | refine blk_drewN ?_ _ | refine blk_drew ?_ | refine blk_alloc ?_ _)); refine blk_put (cs := #[.int .i64 ((rd_T29 l0_1 x23_2).f0), .int .i64 ((rd_T29 l0_1 x23_2).f1), .int .i64 0]) ?_ 2 _ rfl; (with_reducible repeat (first | refine blk_drewN ?_ _ | refine blk_drew ?_ | refine blk_alloc ?_ _)); refine blk_put (cs := #[.int .i64 ((rd_T29 l0_1 x23_2).f0), .int .i64 0, .int .i64 0]) ?_ 1 _ rfl; (with_reducible repeat (first | refine blk_drewN ?_ _ | refine blk_drew ?_ | refine blk_alloc ?_ _)); refine blk_put (cs := #[.int .i64 0, .int .i64 0, .int .i64 0]) ?_ 0 _ rfl; (with_reducible repeat (first | refine blk_drewN ?_ _ | refine blk_drew ?_ | refine blk_alloc ?_ _)); exact BK244.out⟩
            have n2_ : Aside0 (Below w.heap.size w (((w47.setCell ⟨gb244, 0, none⟩ (.int .i64 ((rd_T29 l0_1 x23_2).f0))).setCell ⟨gb244, 1, none⟩ (.int .i64 ((rd_T29 l0_1 x23_2).f1))).setCell ⟨gb244, 2, none⟩ (.int .i64 ((rd_T29 l0_1 x23_2).f2)))) := ⟨by repeat (first | (with_reducible first | exact HB.out | apply below_alloc | apply pw_below_drewN | apply below_drew1 | refine below_set ?_ GE239.out | refine below_set ?_ GE244.out) | exact HB.out)⟩
            (try clear BK239)
            (try clear BK244)
            (try clear HB)
            generalize (((w47.setCell ⟨gb244, 0, none⟩ (.int .i64 ((rd_T29 l0_1 x23_2).f0))).setCell ⟨gb244, 1, none⟩ (.int .i64 ((rd_T29 l0_1 x23_2).f1))).setCell ⟨gb244, 2, none⟩ (.int .i64 ((rd_T29 l0_1 x23_2).f2))) = w50 at n0_ n1_ n2_ ⊢
            have BK239 := n0_
            have BK244 := n1_
            have HB := n2_
            clear n0_ n1_ n2_
            have n0_ := Aside0.mk (blk_drew BK239.out)
            have n1_ := Aside0.mk (blk_drew BK244.out)
            have n2_ := Aside0.mk (below_drew1 HB.out)
            clear BK239
            clear BK244
            clear HB
            have BK239 := n0_
            have BK244 := n1_
            have HB := n2_
            clear n0_ n1_ n2_
            refine start_ (n := 31) (S := fun w' => w'.cell? ⟨gb244, 0, none⟩ = some (.int .i64 ((rd_T29 l0_1 x23_2).f0)) ∧ w'.cell? ⟨gb244, 1, none⟩ = some (.int .i64 ((rd_T29 l0_1 x23_2).f1)) ∧ w'.cell? ⟨gb244, 2, none⟩ = some (.int .i64 ((rd_T29 l0_1 x23_2).f2))) (ds := []) m9_15 (by kernel_rfl) rfl rfl ⟨(blk_cell BK244.out 0).trans rfl, (blk_cell BK244.out 1).trans rfl, (blk_cell BK244.out 2).trans rfl⟩ (fun hHeld => ?_); refine with_tabW impl_SourceOk.tab10 impl_SourceOk.bits10 (fun HT_ HW_ => ?_)
            generalize w50.drew = w51 at BK239 BK244 HB hHeld ⊢
            refine take_ (i := 0) (N := some 28) (v := ?_) (a' := ?_) m9_17 rfl rfl (take_ofW HT_.out HW_.out (by kernel_rfl)) (fun _ _ _ h => h) (Or.inl ⟨by rfl, ?_⟩) hHeld ?_ ?_
            rotate_left
            ·rintro w' ⟨s0, s1, s2⟩
             go_simp
             with_reducible rfl
            rotate_left
            ·simp only [Act.put, List.setIfInBounds_toArray, List.set_cons_zero, List.set_cons_succ, i64_w, i32_w]
             rfl
            refine one_ (i := 1) (N := some 29) m9_18 rfl rfl (one_of HT_.out (by kernel_rfl)) (by decide) (fun K hK => ?_)
            refine goes_ Try.func27 (by kernel_rfl) rfl #[.agg #[.int .i64 ((rd_T29 l0_1 x23_2).f0), .int .i64 ((rd_T29 l0_1 x23_2).f1), .int .i64 ((rd_T29 l0_1 x23_2).f2)]] (by rfl) rfl rfl (by (try simp only [List.map_toArray, List.map_cons, List.map_nil]); first | done | rfl | (simp only [List.length_drop, List.length_take]; rfl)) ?_
            with_reducible refine (impl_zoneOk.calls ((rd_T29 l0_1 x23_2).f0) ((rd_T29 l0_1 x23_2).f1) ((rd_T29 l0_1 x23_2).f2) true _ A17.out).mono ?_
            rintro e w52 ⟨rfl, hb⟩
            refine ⟨_, rfl, ?_⟩
            have n0_ := Aside0.mk (blk_below (g := gb239) (o := .cells #[.slice A0_0 l0_0.length c0_0, .slice (some ad243) l0_1.length c0_1, .slice A0_2 l0_2.length c0_2] 36 (0, 0)) (by (with_reducible repeat (first | refine blk_drewN ?_ _ | refine blk_drew ?_ | refine blk_alloc ?_ _)); exact BK239.out) hb)
            have n1_ := Aside0.mk (blk_below (g := gb244) (o := .cells #[.int .i64 ((rd_T29 l0_1 x23_2).f0), .int .i64 ((rd_T29 l0_1 x23_2).f1), .int .i64 ((rd_T29 l0_1 x23_2).f2)] 29 (0, 0)) (by (with_reducible repeat (first | refine blk_drewN ?_ _ | refine blk_drew ?_ | refine blk_alloc ?_ _)); exact BK244.out) hb)
            have n2_ := Aside0.mk (below_step (by repeat (first | (with_reducible first | exact HB.out | apply below_alloc | apply pw_below_drewN | apply below_drew1 | refine below_set ?_ GE239.out | refine below_set ?_ GE244.out) | exact HB.out)) hb)
            clear BK239
            clear BK244
            clear HB
            have BK239 := n0_
            have BK244 := n1_
            have HB := n2_
            clear n0_ n1_ n2_
            (try clear hb)
            (try clear hb2)
            (try clear hk)
            (try clear hi)
            refine hK.out _ _ ⟨(blk_cell BK244.out 0).trans rfl, (blk_cell BK244.out 1).trans rfl, (blk_cell BK244.out 2).trans rfl⟩ (fun hHeld => ?_)
            clear hK K
            refine norm_ (a' := ?_) ?_ ?_
            rotate_left
            ·show Act.put _ (some 29) _ = _
             simp only [Act.put, List.setIfInBounds_toArray, List.set_cons_zero, List.set_cons_succ, i64_w, i32_w]
             rfl
            refine p9_ 2 (some 30) m9_20 (any_of HT_.out (by kernel_rfl)) ?_
            refine p9_ 3 (some 31) m9_22 (any_of HT_.out (by kernel_rfl)) ?_
            refine p9_ 4 (some 32) m9_24 (any_of HT_.out (by kernel_rfl)) ?_
            refine p9_ 5 (some 33) m9_26 (any_of HT_.out (by kernel_rfl)) ?_
            refine p9_ 6 (some 34) m9_28 (any_of HT_.out (by kernel_rfl)) ?_
            refine u9_ 7 (some 35) m9_30 (any_of HT_.out (by kernel_rfl)) ?_
            refine u9_ 8 (some 36) m9_68 (any_of HT_.out (by kernel_rfl)) ?_
            refine u9_ 9 (some 37) m9_70 (any_of HT_.out (by kernel_rfl)) ?_
            refine u9_ 10 (some 38) m9_72 (any_of HT_.out (by kernel_rfl)) ?_
            refine u9_ 11 (some 39) m9_74 (any_of HT_.out (by kernel_rfl)) ?_
            refine u9_ 12 (some 40) m9_76 (any_of HT_.out (by kernel_rfl)) ?_
            refine u9_ 13 (some 41) m9_78 (any_of HT_.out (by kernel_rfl)) ?_
            refine u9_ 14 (some 42) m9_36 (any_of HT_.out (by kernel_rfl)) ?_
            refine u9_ 15 (some 43) m9_37 (any_of HT_.out (by kernel_rfl)) ?_
            refine u9_ 16 (some 44) m9_38 (any_of HT_.out (by kernel_rfl)) ?_
            refine p9_ 17 (some 45) m9_39 (any_of HT_.out (by kernel_rfl)) ?_
            refine p9_ 18 (some 46) m9_40 (any_of HT_.out (by kernel_rfl)) ?_
            refine p9_ 19 (some 47) m9_41 (any_of HT_.out (by kernel_rfl)) ?_
            refine p9_ 20 (some 48) m9_42 (any_of HT_.out (by kernel_rfl)) ?_
            refine take_ (i := 21) (N := some 49) (v := ?_) (a' := ?_) m9_43 rfl rfl (take_ofW HT_.out HW_.out (by kernel_rfl)) (fun _ _ _ h => h) (Or.inl ⟨by rfl, ?_⟩) hHeld ?_ ?_
            rotate_left
            ·rintro w' ⟨s0, s1, s2⟩
             go_simp
             with_reducible rfl
            rotate_left
            ·simp only [Act.put, List.setIfInBounds_toArray, List.set_cons_zero, List.set_cons_succ, i64_w, i32_w]
             rfl
            refine p9_ 22 (some 50) m9_44 (any_of HT_.out (by kernel_rfl)) ?_
            refine p9_ 23 (some 51) m9_45 (any_of HT_.out (by kernel_rfl)) ?_
            refine u9_ 24 (some 52) m9_54 (any_of HT_.out (by kernel_rfl)) ?_
            refine u9_ 25 (some 53) m9_46 (any_of HT_.out (by kernel_rfl)) ?_
            refine u9_ 26 (some 54) m9_47 (any_of HT_.out (by kernel_rfl)) ?_
            refine u9_ 27 (some 55) m9_48 (any_of HT_.out (by kernel_rfl)) ?_
            refine u9_ 28 (some 56) m9_49 (any_of HT_.out (by kernel_rfl)) ?_
            refine p9_ 29 (some 57) m9_50 (any_of HT_.out (by kernel_rfl)) ?_
            refine p9_ 30 (some 58) m9_51 (any_of HT_.out (by kernel_rfl)) ?_
            refine done_ (done_of HT_.out (by kernel_rfl)) ?_
            try go_wp2
            go_roundg k2
            case measure => have := HK1.out; have := HK2.out; omega
            case rel => exact ⟨(wrap64 (x23_2 + 1)), (by first | rfl | (simp; done) | (simp [*]; done)), H', ⟨by have := HK1.out; have := HK2.out; omega⟩, ⟨by (with_reducible repeat (first | refine blk_drewN ?_ _ | refine blk_drew ?_ | refine blk_alloc ?_ _)); exact BK239.out⟩, ⟨by repeat (first | (with_reducible first | exact HB.out | apply below_alloc | apply pw_below_drewN | apply below_drew1 | refine below_set ?_ GE239.out | refine below_set ?_ GE244.out) | exact HB.out)⟩⟩
           ·rw [if_neg c46] at H
            have c46b0 : (((rd_T29 l0_1 x23_2).f2) == 0) = false := beq_eq_false_iff_ne.mpr c46
            have c46b1 : (((rd_T29 l0_1 x23_2).f2) != 0) = true := bne_iff_ne.mpr c46
            replace H := Option.bind_eq_some_iff.mp H
            obtain ⟨t248, A530, H⟩ := H
            replace H : (if t248 = true then (impl_SourceOk.l1 k2 l0_1 (l0_1.length : Int) (wrap64 (x23_2 + 1)) l0_0 l0_1 l0_2) else (some false)) = some r := H
            have A53 := Aside0.mk A530
            clear A530
            have p243 : 0 ≤ (x23_2 : Int) := of_decide_eq_true (by first | (with_reducible assumption) | assumption)
            have q243 : x23_2 < (l0_1.length : Int) := of_decide_eq_true (by first | (with_reducible assumption) | assumption)
            obtain ⟨ad243, e243, hx243_0, hx243_1, hx243_2⟩ := at_T29 HR0_1.out x23_2 p243 q243
            cases e243
            replace hx243_0 := (HB.out.cell (World.block_lt_of_cell? w _ hx243_0)).trans hx243_0
            replace hx243_1 := (HB.out.cell (World.block_lt_of_cell? w _ hx243_1)).trans hx243_1
            replace hx243_2 := (HB.out.cell (World.block_lt_of_cell? w _ hx243_2)).trans hx243_2
            replace p243 := eq_true p243
            replace q243 := eq_true q243
            try go_wp2_with (first | ((with_reducible refine gate_dst (N := 6) rfl ?_); refine box_event ?hg (N := 6) ?hd (cs := #[.int .i64 0, .int .i64 0, .int .i64 0]) (t := 29) ?hr ?_; (case hd => rfl); (case hg => rfl); (case hr => first | (go_simp; done) | (go_simp; rfl)); intro gb244 hg w54 hbox hb; have n0_ := Aside0.mk (blk_below (g := gb239) (o := .cells #[.slice A0_0 l0_0.length c0_0, .slice (some ad243) l0_1.length c0_1, .slice A0_2 l0_2.length c0_2] 36 (0, 0)) (by (with_reducible repeat (first | refine blk_drewN ?_ _ | refine blk_drew ?_ | refine blk_alloc ?_ _)); exact BK239.out) hb); have n1_ := Aside0.mk (below_step (by repeat (first | (with_reducible first | exact HB.out | apply below_alloc | apply pw_below_drewN | apply below_drew1 | refine below_set ?_ GE239.out) | exact HB.out)) hb); have n2_ := Aside0.mk (hbox); have n3_ := Aside0.mk ((by rw [hg]; exact (below_size (by repeat (first | (with_reducible first | exact HB.out | apply below_alloc | apply pw_below_drewN | apply below_drew1 | refine below_set ?_ GE239.out) | exact HB.out))) : w.heap.size ≤ gb244)); have n4_ := Aside0.mk ((by rw [hg]; exact (below_size (by repeat (first | (with_reducible first | exact HB.out | apply below_alloc | apply pw_below_drewN | apply below_drew1 | refine below_set ?_ GE239.out) | exact HB.out))) : w.heap.size ≤ gb244)); have n5_ := Aside0.mk ((by rw [hg]; exact Nat.ne_of_lt (blk_lt (g := gb239) (o := .cells #[.slice A0_0 l0_0.length c0_0, .slice (some ad243) l0_1.length c0_1, .slice A0_2 l0_2.length c0_2] 36 (0, 0)) (by (with_reducible repeat (first | refine blk_drewN ?_ _ | refine blk_drew ?_ | refine blk_alloc ?_ _)); exact BK239.out)) : gb239 ≠ gb244)); have n6_ := Aside0.mk ((by rw [hg]; exact Nat.ne_of_gt (blk_lt (g := gb239) (o := .cells #[.slice A0_0 l0_0.length c0_0, .slice (some ad243) l0_1.length c0_1, .slice A0_2 l0_2.length c0_2] 36 (0, 0)) (by (with_reducible repeat (first | refine blk_drewN ?_ _ | refine blk_drew ?_ | refine blk_alloc ?_ _)); exact BK239.out)) : gb244 ≠ gb239)); clear BK239; clear HB; have BK239 := n0_; have HB := n1_; have BK244 := n2_; have GW244 := n3_; have GE244 := n4_; have NB239_244 := n5_; have NB244_239 := n6_; clear n0_ n1_ n2_ n3_ n4_ n5_ n6_; clear hb hbox hg; have hnb55 := NB244_239.out; have hnc55 := NB239_244.out; have hcz56_0 : w54.cell? ⟨gb244, 0, none⟩ = some (.int .i64 0) := (blk_cell BK244.out 0).trans rfl; have hcz56_1 : w54.cell? ⟨gb244, 1, none⟩ = some (.int .i64 0) := (blk_cell BK244.out 1).trans rfl; have hcz56_2 : w54.cell? ⟨gb244, 2, none⟩ = some (.int .i64 0) := (blk_cell BK244.out 2).trans rfl; have hfz56_0 := blk_frozen BK244.out 0; have hfz56_1 := blk_frozen BK244.out 1; have hfz56_2 := blk_frozen BK244.out 2))
            have n0_ : Aside0 ((((w54.setCell ⟨gb244, 0, none⟩ (.int .i64 ((rd_T29 l0_1 x23_2).f0))).setCell ⟨gb244, 1, none⟩ (.int .i64 ((rd_T29 l0_1 x23_2).f1))).setCell ⟨gb244, 2, none⟩ (.int .i64 ((rd_T29 l0_1 x23_2).f2))).heap[gb239]? = some (.cells #[.slice A0_0 l0_0.length c0_0, .slice (some ad243) l0_1.length c0_1, .slice A0_2 l0_2.length c0_2] 36 (0, 0))) := ⟨by (with_reducible repeat (first | refine blk_drewN ?_ _ | refine blk_drew ?_ | refine blk_alloc ?_ _)); refine blk_far ?_ NB239_244.out _; (with_reducible repeat (first | refine blk_drewN ?_ _ | refine blk_drew ?_ | refine blk_alloc ?_ _)); refine blk_far ?_ NB239_244.out _; (with_reducible repeat (first | refine blk_drewN ?_ _ | refine blk_drew ?_ | refine blk_alloc ?_ _)); refine blk_far ?_ NB239_244.out _; (with_reducible repeat (first | refine blk_drewN ?_ _ | refine blk_drew ?_ | refine blk_alloc ?_ _)); exact BK239.out⟩
            have n1_ : Aside0 ((((w54.setCell ⟨gb244, 0, none⟩ (.int .i64 ((rd_T29 l0_1 x23_2).f0))).setCell ⟨gb244, 1, none⟩ (.int .i64 ((rd_T29 l0_1 x23_2).f1))).setCell ⟨gb244, 2, none⟩ (.int .i64 ((rd_T29 l0_1 x23_2).f2))).heap[gb244]? = some (.cells #[.int .i64 ((rd_T29 l0_1 x23_2).f0), .int .i64 ((rd_T29 l0_1 x23_2).f1), .int .i64 ((rd_T29 l0_1 x23_2).f2)] 29 (0, 0))) := ⟨by (with_reducible repeat (first | refine blk_drewN ?_ _ | refine blk_drew ?_ | refine blk_alloc ?_ _)); refine blk_put (cs := #[.int .i64 ((rd_T29 l0_1 x23_2).f0), .int .i64 ((rd_T29 l0_1 x23_2).f1), .int .i64 0]) ?_ 2 _ rfl; (with_reducible repeat (first | refine blk_drewN ?_ _ | refine blk_drew ?_ | refine blk_alloc ?_ _)); refine blk_put (cs := #[.int .i64 ((rd_T29 l0_1 x23_2).f0), .int .i64 0, .int .i64 0]) ?_ 1 _ rfl; (with_reducible repeat (first | refine blk_drewN ?_ _ | refine blk_drew ?_ | refine blk_alloc ?_ _)); refine blk_put (cs := #[.int .i64 0, .int .i64 0, .int .i64 0]) ?_ 0 _ rfl; (with_reducible repeat (first | refine blk_drewN ?_ _ | refine blk_drew ?_ | refine blk_alloc ?_ _)); exact BK244.out⟩
            have n2_ : Aside0 (Below w.heap.size w (((w54.setCell ⟨gb244, 0, none⟩ (.int .i64 ((rd_T29 l0_1 x23_2).f0))).setCell ⟨gb244, 1, none⟩ (.int .i64 ((rd_T29 l0_1 x23_2).f1))).setCell ⟨gb244, 2, none⟩ (.int .i64 ((rd_T29 l0_1 x23_2).f2)))) := ⟨by repeat (first | (with_reducible first | exact HB.out | apply below_alloc | apply pw_below_drewN | apply below_drew1 | refine below_set ?_ GE239.out | refine below_set ?_ GE244.out) | exact HB.out)⟩
            (try clear BK239)
            (try clear BK244)
            (try clear HB)
            generalize (((w54.setCell ⟨gb244, 0, none⟩ (.int .i64 ((rd_T29 l0_1 x23_2).f0))).setCell ⟨gb244, 1, none⟩ (.int .i64 ((rd_T29 l0_1 x23_2).f1))).setCell ⟨gb244, 2, none⟩ (.int .i64 ((rd_T29 l0_1 x23_2).f2))) = w57 at n0_ n1_ n2_ ⊢
            have BK239 := n0_
            have BK244 := n1_
            have HB := n2_
            clear n0_ n1_ n2_
            have n0_ := Aside0.mk (blk_drew BK239.out)
            have n1_ := Aside0.mk (blk_drew BK244.out)
            have n2_ := Aside0.mk (below_drew1 HB.out)
            clear BK239
            clear BK244
            clear HB
            have BK239 := n0_
            have BK244 := n1_
            have HB := n2_
            clear n0_ n1_ n2_
            refine start_ (n := 31) (S := fun w' => w'.cell? ⟨gb244, 0, none⟩ = some (.int .i64 ((rd_T29 l0_1 x23_2).f0)) ∧ w'.cell? ⟨gb244, 1, none⟩ = some (.int .i64 ((rd_T29 l0_1 x23_2).f1)) ∧ w'.cell? ⟨gb244, 2, none⟩ = some (.int .i64 ((rd_T29 l0_1 x23_2).f2)) ∧ w'.cell? ⟨gb239, 0, none⟩ = some (.slice A0_0 l0_0.length c0_0) ∧ w'.cell? ⟨gb239, 1, none⟩ = some (.slice (some ad243) l0_1.length c0_1) ∧ w'.cell? ⟨gb239, 2, none⟩ = some (.slice A0_2 l0_2.length c0_2)) (ds := []) m9_15 (by kernel_rfl) rfl rfl ⟨(blk_cell BK244.out 0).trans rfl, (blk_cell BK244.out 1).trans rfl, (blk_cell BK244.out 2).trans rfl, (blk_cell BK239.out 0).trans rfl, (blk_cell BK239.out 1).trans rfl, (blk_cell BK239.out 2).trans rfl⟩ (fun hHeld => ?_); refine with_tabW impl_SourceOk.tab10 impl_SourceOk.bits10 (fun HT_ HW_ => ?_)
            generalize w57.drew = w58 at BK239 BK244 HB hHeld ⊢
            refine take_ (i := 0) (N := some 28) (v := ?_) (a' := ?_) m9_17 rfl rfl (take_ofW HT_.out HW_.out (by kernel_rfl)) (fun _ _ _ h => h) (Or.inl ⟨by rfl, ?_⟩) hHeld ?_ ?_
            rotate_left
            ·rintro w' ⟨s0, s1, s2, s3, s4, s5⟩
             go_simp
             with_reducible rfl
            rotate_left
            ·simp only [Act.put, List.setIfInBounds_toArray, List.set_cons_zero, List.set_cons_succ, i64_w, i32_w]
             rfl
            refine one_ (i := 1) (N := some 29) m9_18 rfl rfl (one_of HT_.out (by kernel_rfl)) (by decide) (fun K hK => ?_)
            refine goes_ Try.func27 (by kernel_rfl) rfl #[.agg #[.int .i64 ((rd_T29 l0_1 x23_2).f0), .int .i64 ((rd_T29 l0_1 x23_2).f1), .int .i64 ((rd_T29 l0_1 x23_2).f2)]] (by rfl) rfl rfl (by (try simp only [List.map_toArray, List.map_cons, List.map_nil]); first | done | rfl | (simp only [List.length_drop, List.length_take]; rfl)) ?_
            with_reducible refine (impl_zoneOk.calls ((rd_T29 l0_1 x23_2).f0) ((rd_T29 l0_1 x23_2).f1) ((rd_T29 l0_1 x23_2).f2) true _ A17.out).mono ?_
            rintro e w59 ⟨rfl, hb⟩
            refine ⟨_, rfl, ?_⟩
            have n0_ := Aside0.mk (blk_below (g := gb239) (o := .cells #[.slice A0_0 l0_0.length c0_0, .slice (some ad243) l0_1.length c0_1, .slice A0_2 l0_2.length c0_2] 36 (0, 0)) (by (with_reducible repeat (first | refine blk_drewN ?_ _ | refine blk_drew ?_ | refine blk_alloc ?_ _)); exact BK239.out) hb)
            have n1_ := Aside0.mk (blk_below (g := gb244) (o := .cells #[.int .i64 ((rd_T29 l0_1 x23_2).f0), .int .i64 ((rd_T29 l0_1 x23_2).f1), .int .i64 ((rd_T29 l0_1 x23_2).f2)] 29 (0, 0)) (by (with_reducible repeat (first | refine blk_drewN ?_ _ | refine blk_drew ?_ | refine blk_alloc ?_ _)); exact BK244.out) hb)
            have n2_ := Aside0.mk (below_step (by repeat (first | (with_reducible first | exact HB.out | apply below_alloc | apply pw_below_drewN | apply below_drew1 | refine below_set ?_ GE239.out | refine below_set ?_ GE244.out) | exact HB.out)) hb)
            clear BK239
            clear BK244
            clear HB
            have BK239 := n0_
            have BK244 := n1_
            have HB := n2_
            clear n0_ n1_ n2_
            (try clear hb)
            (try clear hb2)
            (try clear hk)
            (try clear hi)
            refine hK.out _ _ ⟨(blk_cell BK244.out 0).trans rfl, (blk_cell BK244.out 1).trans rfl, (blk_cell BK244.out 2).trans rfl, (blk_cell BK239.out 0).trans rfl, (blk_cell BK239.out 1).trans rfl, (blk_cell BK239.out 2).trans rfl⟩ (fun hHeld => ?_)
            clear hK K
            refine norm_ (a' := ?_) ?_ ?_
            rotate_left
            ·show Act.put _ (some 29) _ = _
             simp only [Act.put, List.setIfInBounds_toArray, List.set_cons_zero, List.set_cons_succ, i64_w, i32_w]
             rfl
            refine p9_ 2 (some 30) m9_20 (any_of HT_.out (by kernel_rfl)) ?_
            refine p9_ 3 (some 31) m9_22 (any_of HT_.out (by kernel_rfl)) ?_
            refine p9_ 4 (some 32) m9_24 (any_of HT_.out (by kernel_rfl)) ?_
            refine p9_ 5 (some 33) m9_26 (any_of HT_.out (by kernel_rfl)) ?_
            refine p9_ 6 (some 34) m9_28 (any_of HT_.out (by kernel_rfl)) ?_
            refine u9_ 7 (some 35) m9_30 (any_of HT_.out (by kernel_rfl)) ?_
            refine u9_ 8 (some 36) m9_68 (any_of HT_.out (by kernel_rfl)) ?_
            refine u9_ 9 (some 37) m9_70 (any_of HT_.out (by kernel_rfl)) ?_
            refine u9_ 10 (some 38) m9_72 (any_of HT_.out (by kernel_rfl)) ?_
            refine u9_ 11 (some 39) m9_74 (any_of HT_.out (by kernel_rfl)) ?_
            refine u9_ 12 (some 40) m9_76 (any_of HT_.out (by kernel_rfl)) ?_
            refine u9_ 13 (some 41) m9_78 (any_of HT_.out (by kernel_rfl)) ?_
            refine u9_ 14 (some 42) m9_36 (any_of HT_.out (by kernel_rfl)) ?_
            refine u9_ 15 (some 43) m9_37 (any_of HT_.out (by kernel_rfl)) ?_
            refine u9_ 16 (some 44) m9_38 (any_of HT_.out (by kernel_rfl)) ?_
            refine p9_ 17 (some 45) m9_39 (any_of HT_.out (by kernel_rfl)) ?_
            refine p9_ 18 (some 46) m9_40 (any_of HT_.out (by kernel_rfl)) ?_
            refine p9_ 19 (some 47) m9_41 (any_of HT_.out (by kernel_rfl)) ?_
            refine p9_ 20 (some 48) m9_42 (any_of HT_.out (by kernel_rfl)) ?_
            refine take_ (i := 21) (N := some 49) (v := ?_) (a' := ?_) m9_43 rfl rfl (take_ofW HT_.out HW_.out (by kernel_rfl)) (fun _ _ _ h => h) (Or.inl ⟨by rfl, ?_⟩) hHeld ?_ ?_
            rotate_left
            ·rintro w' ⟨s0, s1, s2, s3, s4, s5⟩
             go_simp
             with_reducible rfl
            rotate_left
            ·simp only [Act.put, List.setIfInBounds_toArray, List.set_cons_zero, List.set_cons_succ, i64_w, i32_w]
             rfl
            refine p9_ 22 (some 50) m9_44 (any_of HT_.out (by kernel_rfl)) ?_
            refine p9_ 23 (some 51) m9_45 (any_of HT_.out (by kernel_rfl)) ?_
            refine p9_ 25 (some 53) m9_81 (any_of HT_.out (by kernel_rfl)) ?_
            refine take_ (i := 24) (N := some 52) (v := ?_) (a' := ?_) m9_46 rfl rfl (take_ofW HT_.out HW_.out (by kernel_rfl)) (fun _ _ _ h => h) (Or.inl ⟨by rfl, ?_⟩) hHeld ?_ ?_
            rotate_left
            ·rintro w' ⟨s0, s1, s2, s3, s4, s5⟩
             go_simp
             with_reducible rfl
            rotate_left
            ·simp only [Act.put, List.setIfInBounds_toArray, List.set_cons_zero, List.set_cons_succ, i64_w, i32_w]
             rfl
            refine take_ (i := 26) (N := some 54) (v := ?_) (a' := ?_) m9_47 rfl rfl (take_ofW HT_.out HW_.out (by kernel_rfl)) (fun _ _ _ h => h) (Or.inl ⟨by rfl, ?_⟩) hHeld ?_ ?_
            rotate_left
            ·rintro w' ⟨s0, s1, s2, s3, s4, s5⟩
             go_simp
             with_reducible rfl
            rotate_left
            ·simp only [Act.put, List.setIfInBounds_toArray, List.set_cons_zero, List.set_cons_succ, i64_w, i32_w]
             rfl
            refine one_ (i := 27) (N := some 55) m9_48 rfl rfl (one_of HT_.out (by kernel_rfl)) (by decide) (fun K hK => ?_)
            refine goes_ Try.func28 (by kernel_rfl) rfl #[.agg #[.slice A0_0 l0_0.length c0_0, .slice (some ad243) l0_1.length c0_1, .slice A0_2 l0_2.length c0_2], .int .i64 ((rd_T29 l0_1 x23_2).f2)] (by rfl) rfl rfl (by (try simp only [List.map_toArray, List.map_cons, List.map_nil]); first | done | rfl | (simp only [List.length_drop, List.length_take]; rfl)) ?_
            with_reducible refine (impl_hasRule.calls _ _ l0_0 _ _ l0_1 _ _ l0_2 ((rd_T29 l0_1 x23_2).f2) t248 _ ?side1 ?side2 ?side3 ?side4 ?side5 ?side6 A53.out).mono ?_
            (case side1 => repeat (first | exact (Kd.C_below HR0_0.out HB.out) | (with_reducible refine Kd.C_alloc ?_ _) | (with_reducible refine Kd.C_drewN ?_ _) | (with_reducible refine Kd.C_drew ?_)))
            (case side2 => exact HC0_0.out)
            (case side3 => repeat (first | exact (Kd.C_below HR0_1.out HB.out) | (with_reducible refine Kd.C_alloc ?_ _) | (with_reducible refine Kd.C_drewN ?_ _) | (with_reducible refine Kd.C_drew ?_)))
            (case side4 => exact HC0_1.out)
            (case side5 => repeat (first | exact (Kd.C_below HR0_2.out HB.out) | (with_reducible refine Kd.C_alloc ?_ _) | (with_reducible refine Kd.C_drewN ?_ _) | (with_reducible refine Kd.C_drew ?_)))
            (case side6 => exact HC0_2.out)
            rintro e w60 ⟨rfl, hb⟩
            refine ⟨_, rfl, ?_⟩
            have n0_ := Aside0.mk (blk_below (g := gb239) (o := .cells #[.slice A0_0 l0_0.length c0_0, .slice (some ad243) l0_1.length c0_1, .slice A0_2 l0_2.length c0_2] 36 (0, 0)) (by (with_reducible repeat (first | refine blk_drewN ?_ _ | refine blk_drew ?_ | refine blk_alloc ?_ _)); exact BK239.out) hb)
            have n1_ := Aside0.mk (blk_below (g := gb244) (o := .cells #[.int .i64 ((rd_T29 l0_1 x23_2).f0), .int .i64 ((rd_T29 l0_1 x23_2).f1), .int .i64 ((rd_T29 l0_1 x23_2).f2)] 29 (0, 0)) (by (with_reducible repeat (first | refine blk_drewN ?_ _ | refine blk_drew ?_ | refine blk_alloc ?_ _)); exact BK244.out) hb)
            have n2_ := Aside0.mk (below_step (by repeat (first | (with_reducible first | exact HB.out | apply below_alloc | apply pw_below_drewN | apply below_drew1 | refine below_set ?_ GE239.out | refine below_set ?_ GE244.out) | exact HB.out)) hb)
            clear BK239
            clear BK244
            clear HB
            have BK239 := n0_
            have BK244 := n1_
            have HB := n2_
            clear n0_ n1_ n2_
            (try clear hb)
            (try clear hb2)
            (try clear hk)
            (try clear hi)
            refine hK.out _ _ ⟨(blk_cell BK244.out 0).trans rfl, (blk_cell BK244.out 1).trans rfl, (blk_cell BK244.out 2).trans rfl, (blk_cell BK239.out 0).trans rfl, (blk_cell BK239.out 1).trans rfl, (blk_cell BK239.out 2).trans rfl⟩ (fun hHeld => ?_)
            clear hK K
            refine norm_ (a' := ?_) ?_ ?_
            rotate_left
            ·show Act.put _ (some 55) _ = _
             simp only [Act.put, List.setIfInBounds_toArray, List.set_cons_zero, List.set_cons_succ, i64_w, i32_w]
             rfl
            refine p9_ 28 (some 56) m9_49 (any_of HT_.out (by kernel_rfl)) ?_
            refine p9_ 29 (some 57) m9_50 (any_of HT_.out (by kernel_rfl)) ?_
            refine p9_ 30 (some 58) m9_51 (any_of HT_.out (by kernel_rfl)) ?_
            refine done_ (done_of HT_.out (by kernel_rfl)) ?_
            go_upto_if 58 with (fail)
            by_cases c61 : t248 = true
            ·subst c61
             have H1 : (impl_SourceOk.l1 k2 l0_1 (l0_1.length : Int) (wrap64 (x23_2 + 1)) l0_0 l0_1 l0_2) = some r := by rw [if_pos rfl] at H; exact H
             clear H
             have H := H1
             clear H1
             have H' := Aside0.mk H
             clear H
             go_wp2
             go_roundg k2
             case measure => have := HK1.out; have := HK2.out; omega
             case rel => exact ⟨(wrap64 (x23_2 + 1)), (by first | rfl | (simp; done) | (simp [*]; done)), H', ⟨by have := HK1.out; have := HK2.out; omega⟩, ⟨by (with_reducible repeat (first | refine blk_drewN ?_ _ | refine blk_drew ?_ | refine blk_alloc ?_ _)); exact BK239.out⟩, ⟨by repeat (first | (with_reducible first | exact HB.out | apply below_alloc | apply pw_below_drewN | apply below_drew1 | refine below_set ?_ GE239.out | refine below_set ?_ GE244.out) | exact HB.out)⟩⟩
            ·replace c61 := Bool.eq_false_iff.mpr c61
             subst c61
             have H1 : (some false) = some r := by rw [if_neg (show ¬ (false = true) by decide)] at H; exact H
             clear H
             have H := H1
             clear H1
             obtain rfl := Option.some.inj H
             go_wp2
             go_ret
             exact ⟨by first | rfl | (simp [errW_none, errW_some] <;> rfl) | (simp [*, errW_none, errW_some] <;> rfl), by repeat (first | (with_reducible first | exact HB.out | apply below_alloc | apply pw_below_drewN | apply below_drew1 | refine below_set ?_ GE239.out | refine below_set ?_ GE244.out) | exact HB.out)⟩
         ·replace c18 := Bool.eq_false_iff.mpr c18
          subst c18
          have H1 : (some false) = some r := by rw [if_neg (show ¬ (false = true) by decide)] at H; exact H
          clear H
          have H := H1
          clear H1
          obtain rfl := Option.some.inj H
          have p243 : 0 ≤ (x23_2 : Int) := of_decide_eq_true (by first | (with_reducible assumption) | assumption)
          have q243 : x23_2 < (l0_1.length : Int) := of_decide_eq_true (by first | (with_reducible assumption) | assumption)
          obtain ⟨ad243, e243, hx243_0, hx243_1, hx243_2⟩ := at_T29 HR0_1.out x23_2 p243 q243
          cases e243
          replace hx243_0 := (HB.out.cell (World.block_lt_of_cell? w _ hx243_0)).trans hx243_0
          replace hx243_1 := (HB.out.cell (World.block_lt_of_cell? w _ hx243_1)).trans hx243_1
          replace hx243_2 := (HB.out.cell (World.block_lt_of_cell? w _ hx243_2)).trans hx243_2
          replace p243 := eq_true p243
          replace q243 := eq_true q243
          try go_wp2_with (first | ((with_reducible refine gate_dst (N := 6) rfl ?_); refine box_event ?hg (N := 6) ?hd (cs := #[.int .i64 0, .int .i64 0, .int .i64 0]) (t := 29) ?hr ?_; (case hd => rfl); (case hg => rfl); (case hr => first | (go_simp; done) | (go_simp; rfl)); intro gb244 hg w62 hbox hb; have n0_ := Aside0.mk (blk_below (g := gb239) (o := .cells #[.slice A0_0 l0_0.length c0_0, .slice (some ad243) l0_1.length c0_1, .slice A0_2 l0_2.length c0_2] 36 (0, 0)) (by (with_reducible repeat (first | refine blk_drewN ?_ _ | refine blk_drew ?_ | refine blk_alloc ?_ _)); exact BK239.out) hb); have n1_ := Aside0.mk (below_step (by repeat (first | (with_reducible first | exact HB.out | apply below_alloc | apply pw_below_drewN | apply below_drew1 | refine below_set ?_ GE239.out) | exact HB.out)) hb); have n2_ := Aside0.mk (hbox); have n3_ := Aside0.mk ((by rw [hg]; exact (below_size (by repeat (first | (with_reducible first | exact HB.out | apply below_alloc | apply pw_below_drewN | apply below_drew1 | refine below_set ?_ GE239.out) | exact HB.out))) : w.heap.size ≤ gb244)); have n4_ := Aside0.mk ((by rw [hg]; exact (below_size (by repeat (first | (with_reducible first | exact HB.out | apply below_alloc | apply pw_below_drewN | apply below_drew1 | refine below_set ?_ GE239.out) | exact HB.out))) : w.heap.size ≤ gb244)); have n5_ := Aside0.mk ((by rw [hg]; exact Nat.ne_of_lt (blk_lt (g := gb239) (o := .cells #[.slice A0_0 l0_0.length c0_0, .slice (some ad243) l0_1.length c0_1, .slice A0_2 l0_2.length c0_2] 36 (0, 0)) (by (with_reducible repeat (first | refine blk_drewN ?_ _ | refine blk_drew ?_ | refine blk_alloc ?_ _)); exact BK239.out)) : gb239 ≠ gb244)); have n6_ := Aside0.mk ((by rw [hg]; exact Nat.ne_of_gt (blk_lt (g := gb239) (o := .cells #[.slice A0_0 l0_0.length c0_0, .slice (some ad243) l0_1.length c0_1, .slice A0_2 l0_2.length c0_2] 36 (0, 0)) (by (with_reducible repeat (first | refine blk_drewN ?_ _ | refine blk_drew ?_ | refine blk_alloc ?_ _)); exact BK239.out)) : gb244 ≠ gb239)); clear BK239; clear HB; have BK239 := n0_; have HB := n1_; have BK244 := n2_; have GW244 := n3_; have GE244 := n4_; have NB239_244 := n5_; have NB244_239 := n6_; clear n0_ n1_ n2_ n3_ n4_ n5_ n6_; clear hb hbox hg; have hnb63 := NB244_239.out; have hnc63 := NB239_244.out; have hcz64_0 : w62.cell? ⟨gb244, 0, none⟩ = some (.int .i64 0) := (blk_cell BK244.out 0).trans rfl; have hcz64_1 : w62.cell? ⟨gb244, 1, none⟩ = some (.int .i64 0) := (blk_cell BK244.out 1).trans rfl; have hcz64_2 : w62.cell? ⟨gb244, 2, none⟩ = some (.int .i64 0) := (blk_cell BK244.out 2).trans rfl; have hfz64_0 := blk_frozen BK244.out 0; have hfz64_1 := blk_frozen BK244.out 1; have hfz64_2 := blk_frozen BK244.out 2))
          have n0_ : Aside0 ((((w62.setCell ⟨gb244, 0, none⟩ (.int .i64 ((rd_T29 l0_1 x23_2).f0))).setCell ⟨gb244, 1, none⟩ (.int .i64 ((rd_T29 l0_1 x23_2).f1))).setCell ⟨gb244, 2, none⟩ (.int .i64 ((rd_T29 l0_1 x23_2).f2))).heap[gb239]? = some (.cells #[.slice A0_0 l0_0.length c0_0, .slice (some ad243) l0_1.length c0_1, .slice A0_2 l0_2.length c0_2] 36 (0, 0))) := ⟨by (with_reducible repeat (first | refine blk_drewN ?_ _ | refine blk_drew ?_ | refine blk_alloc ?_ _)); refine blk_far ?_ NB239_244.out _; (with_reducible repeat (first | refine blk_drewN ?_ _ | refine blk_drew ?_ | refine blk_alloc ?_ _)); refine blk_far ?_ NB239_244.out _; (with_reducible repeat (first | refine blk_drewN ?_ _ | refine blk_drew ?_ | refine blk_alloc ?_ _)); refine blk_far ?_ NB239_244.out _; (with_reducible repeat (first | refine blk_drewN ?_ _ | refine blk_drew ?_ | refine blk_alloc ?_ _)); exact BK239.out⟩
          have n1_ : Aside0 ((((w62.setCell ⟨gb244, 0, none⟩ (.int .i64 ((rd_T29 l0_1 x23_2).f0))).setCell ⟨gb244, 1, none⟩ (.int .i64 ((rd_T29 l0_1 x23_2).f1))).setCell ⟨gb244, 2, none⟩ (.int .i64 ((rd_T29 l0_1 x23_2).f2))).heap[gb244]? = some (.cells #[.int .i64 ((rd_T29 l0_1 x23_2).f0), .int .i64 ((rd_T29 l0_1 x23_2).f1), .int .i64 ((rd_T29 l0_1 x23_2).f2)] 29 (0, 0))) := ⟨by (with_reducible repeat (first | refine blk_drewN ?_ _ | refine blk_drew ?_ | refine blk_alloc ?_ _)); refine blk_put (cs := #[.int .i64 ((rd_T29 l0_1 x23_2).f0), .int .i64 ((rd_T29 l0_1 x23_2).f1), .int .i64 0]) ?_ 2 _ rfl; (with_reducible repeat (first | refine blk_drewN ?_ _ | refine blk_drew ?_ | refine blk_alloc ?_ _)); refine blk_put (cs := #[.int .i64 ((rd_T29 l0_1 x23_2).f0), .int .i64 0, .int .i64 0]) ?_ 1 _ rfl; (with_reducible repeat (first | refine blk_drewN ?_ _ | refine blk_drew ?_ | refine blk_alloc ?_ _)); refine blk_put (cs := #[.int .i64 0, .int .i64 0, .int .i64 0]) ?_ 0 _ rfl; (with_reducible repeat (first | refine blk_drewN ?_ _ | refine blk_drew ?_ | refine blk_alloc ?_ _)); exact BK244.out⟩
          have n2_ : Aside0 (Below w.heap.size w (((w62.setCell ⟨gb244, 0, none⟩ (.int .i64 ((rd_T29 l0_1 x23_2).f0))).setCell ⟨gb244, 1, none⟩ (.int .i64 ((rd_T29 l0_1 x23_2).f1))).setCell ⟨gb244, 2, none⟩ (.int .i64 ((rd_T29 l0_1 x23_2).f2)))) := ⟨by repeat (first | (with_reducible first | exact HB.out | apply below_alloc | apply pw_below_drewN | apply below_drew1 | refine below_set ?_ GE239.out | refine below_set ?_ GE244.out) | exact HB.out)⟩
          (try clear BK239)
          (try clear BK244)
          (try clear HB)
          generalize (((w62.setCell ⟨gb244, 0, none⟩ (.int .i64 ((rd_T29 l0_1 x23_2).f0))).setCell ⟨gb244, 1, none⟩ (.int .i64 ((rd_T29 l0_1 x23_2).f1))).setCell ⟨gb244, 2, none⟩ (.int .i64 ((rd_T29 l0_1 x23_2).f2))) = w65 at n0_ n1_ n2_ ⊢
          have BK239 := n0_
          have BK244 := n1_
          have HB := n2_
          clear n0_ n1_ n2_
          have n0_ := Aside0.mk (blk_drew BK239.out)
          have n1_ := Aside0.mk (blk_drew BK244.out)
          have n2_ := Aside0.mk (below_drew1 HB.out)
          clear BK239
          clear BK244
          clear HB
          have BK239 := n0_
          have BK244 := n1_
          have HB := n2_
          clear n0_ n1_ n2_
          refine start_ (n := 31) (S := fun w' => w'.cell? ⟨gb244, 0, none⟩ = some (.int .i64 ((rd_T29 l0_1 x23_2).f0)) ∧ w'.cell? ⟨gb244, 1, none⟩ = some (.int .i64 ((rd_T29 l0_1 x23_2).f1)) ∧ w'.cell? ⟨gb244, 2, none⟩ = some (.int .i64 ((rd_T29 l0_1 x23_2).f2))) (ds := []) m9_15 (by kernel_rfl) rfl rfl ⟨(blk_cell BK244.out 0).trans rfl, (blk_cell BK244.out 1).trans rfl, (blk_cell BK244.out 2).trans rfl⟩ (fun hHeld => ?_); refine with_tabW impl_SourceOk.tab10 impl_SourceOk.bits10 (fun HT_ HW_ => ?_)
          generalize w65.drew = w66 at BK239 BK244 HB hHeld ⊢
          refine take_ (i := 0) (N := some 28) (v := ?_) (a' := ?_) m9_17 rfl rfl (take_ofW HT_.out HW_.out (by kernel_rfl)) (fun _ _ _ h => h) (Or.inl ⟨by rfl, ?_⟩) hHeld ?_ ?_
          rotate_left
          ·rintro w' ⟨s0, s1, s2⟩
           go_simp
           with_reducible rfl
          rotate_left
          ·simp only [Act.put, List.setIfInBounds_toArray, List.set_cons_zero, List.set_cons_succ, i64_w, i32_w]
           rfl
          refine one_ (i := 1) (N := some 29) m9_18 rfl rfl (one_of HT_.out (by kernel_rfl)) (by decide) (fun K hK => ?_)
          refine goes_ Try.func27 (by kernel_rfl) rfl #[.agg #[.int .i64 ((rd_T29 l0_1 x23_2).f0), .int .i64 ((rd_T29 l0_1 x23_2).f1), .int .i64 ((rd_T29 l0_1 x23_2).f2)]] (by rfl) rfl rfl (by (try simp only [List.map_toArray, List.map_cons, List.map_nil]); first | done | rfl | (simp only [List.length_drop, List.length_take]; rfl)) ?_
          with_reducible refine (impl_zoneOk.calls ((rd_T29 l0_1 x23_2).f0) ((rd_T29 l0_1 x23_2).f1) ((rd_T29 l0_1 x23_2).f2) false _ A17.out).mono ?_
          rintro e w67 ⟨rfl, hb⟩
          refine ⟨_, rfl, ?_⟩
          have n0_ := Aside0.mk (blk_below (g := gb239) (o := .cells #[.slice A0_0 l0_0.length c0_0, .slice (some ad243) l0_1.length c0_1, .slice A0_2 l0_2.length c0_2] 36 (0, 0)) (by (with_reducible repeat (first | refine blk_drewN ?_ _ | refine blk_drew ?_ | refine blk_alloc ?_ _)); exact BK239.out) hb)
          have n1_ := Aside0.mk (blk_below (g := gb244) (o := .cells #[.int .i64 ((rd_T29 l0_1 x23_2).f0), .int .i64 ((rd_T29 l0_1 x23_2).f1), .int .i64 ((rd_T29 l0_1 x23_2).f2)] 29 (0, 0)) (by (with_reducible repeat (first | refine blk_drewN ?_ _ | refine blk_drew ?_ | refine blk_alloc ?_ _)); exact BK244.out) hb)
          have n2_ := Aside0.mk (below_step (by repeat (first | (with_reducible first | exact HB.out | apply below_alloc | apply pw_below_drewN | apply below_drew1 | refine below_set ?_ GE239.out | refine below_set ?_ GE244.out) | exact HB.out)) hb)
          clear BK239
          clear BK244
          clear HB
          have BK239 := n0_
          have BK244 := n1_
          have HB := n2_
          clear n0_ n1_ n2_
          (try clear hb)
          (try clear hb2)
          (try clear hk)
          (try clear hi)
          refine hK.out _ _ ⟨(blk_cell BK244.out 0).trans rfl, (blk_cell BK244.out 1).trans rfl, (blk_cell BK244.out 2).trans rfl⟩ (fun hHeld => ?_)
          clear hK K
          refine norm_ (a' := ?_) ?_ ?_
          rotate_left
          ·show Act.put _ (some 29) _ = _
           simp only [Act.put, List.setIfInBounds_toArray, List.set_cons_zero, List.set_cons_succ, i64_w, i32_w]
           rfl
          refine p9_ 2 (some 30) m9_20 (any_of HT_.out (by kernel_rfl)) ?_
          refine p9_ 3 (some 31) m9_22 (any_of HT_.out (by kernel_rfl)) ?_
          refine u9_ 4 (some 32) m9_24 (any_of HT_.out (by kernel_rfl)) ?_
          refine u9_ 5 (some 33) m9_26 (any_of HT_.out (by kernel_rfl)) ?_
          refine u9_ 6 (some 34) m9_28 (any_of HT_.out (by kernel_rfl)) ?_
          refine u9_ 7 (some 35) m9_30 (any_of HT_.out (by kernel_rfl)) ?_
          refine u9_ 8 (some 36) m9_68 (any_of HT_.out (by kernel_rfl)) ?_
          refine u9_ 9 (some 37) m9_70 (any_of HT_.out (by kernel_rfl)) ?_
          refine u9_ 10 (some 38) m9_72 (any_of HT_.out (by kernel_rfl)) ?_
          refine u9_ 11 (some 39) m9_74 (any_of HT_.out (by kernel_rfl)) ?_
          refine u9_ 12 (some 40) m9_76 (any_of HT_.out (by kernel_rfl)) ?_
          refine u9_ 13 (some 41) m9_78 (any_of HT_.out (by kernel_rfl)) ?_
          refine u9_ 14 (some 42) m9_36 (any_of HT_.out (by kernel_rfl)) ?_
          refine u9_ 15 (some 43) m9_37 (any_of HT_.out (by kernel_rfl)) ?_
          refine u9_ 16 (some 44) m9_38 (any_of HT_.out (by kernel_rfl)) ?_
          refine u9_ 17 (some 45) m9_39 (any_of HT_.out (by kernel_rfl)) ?_
          refine p9_ 18 (some 46) m9_40 (any_of HT_.out (by kernel_rfl)) ?_
          refine p9_ 19 (some 47) m9_41 (any_of HT_.out (by kernel_rfl)) ?_
          refine u9_ 20 (some 48) m9_42 (any_of HT_.out (by kernel_rfl)) ?_
          refine u9_ 21 (some 49) m9_43 (any_of HT_.out (by kernel_rfl)) ?_
          refine u9_ 22 (some 50) m9_44 (any_of HT_.out (by kernel_rfl)) ?_
          refine u9_ 23 (some 51) m9_45 (any_of HT_.out (by kernel_rfl)) ?_
          refine u9_ 24 (some 52) m9_54 (any_of HT_.out (by kernel_rfl)) ?_
          refine u9_ 25 (some 53) m9_46 (any_of HT_.out (by kernel_rfl)) ?_
          refine u9_ 26 (some 54) m9_47 (any_of HT_.out (by kernel_rfl)) ?_
          refine u9_ 27 (some 55) m9_48 (any_of HT_.out (by kernel_rfl)) ?_
          refine u9_ 28 (some 56) m9_49 (any_of HT_.out (by kernel_rfl)) ?_
          refine u9_ 29 (some 57) m9_50 (any_of HT_.out (by kernel_rfl)) ?_
          refine p9_ 30 (some 58) m9_51 (any_of HT_.out (by kernel_rfl)) ?_
          refine done_ (done_of HT_.out (by kernel_rfl)) ?_
          try go_wp2
          go_ret
          exact ⟨by first | rfl | (simp [errW_none, errW_some] <;> rfl) | (simp [*, errW_none, errW_some] <;> rfl), by repeat (first | (with_reducible first | exact HB.out | apply below_alloc | apply pw_below_drewN | apply below_drew1 | refine below_set ?_ GE239.out | refine below_set ?_ GE244.out) | exact HB.out)⟩
        ·rw [if_neg c16] at H
         exact absurd H (by simp)
       ·rw [if_neg c15] at H
        exact absurd H (by simp)
      ·rw [if_neg c14] at H
       have c14b0 : decide (x23_2 < (l0_1.length : Int)) = false := decide_eq_false c14
       clear c14
       (first | rw [c14b0] | (simp only [i64_w, i32_w]; rw [c14b0]) | skip)
       have H' := Aside0.mk H
       clear H
       have hcz68_0 : wr.cell? ⟨gb239, 0, none⟩ = some (.slice A0_0 l0_0.length c0_0) := (blk_cell BK239.out 0).trans rfl
       have hcz68_1 : wr.cell? ⟨gb239, 1, none⟩ = some (.slice A0_1 l0_1.length c0_1) := (blk_cell BK239.out 1).trans rfl
       have hcz68_2 : wr.cell? ⟨gb239, 2, none⟩ = some (.slice A0_2 l0_2.length c0_2) := (blk_cell BK239.out 2).trans rfl
       have hfz68_0 := blk_frozen BK239.out 0
       have hfz68_1 := blk_frozen BK239.out 1
       have hfz68_2 := blk_frozen BK239.out 2
       go_wp2
       go_loopg [63] k2 (fun kq v63 w' => ∃ (x63_3 : Int), v63 = .int .i64 x63_3 ∧ Aside0 (impl_SourceOk.l2 kq l0_2 (l0_2.length : Int) x63_3 l0_0 l0_1 l0_2 = some r) ∧ Aside0 (kq ≤ k2) ∧ Aside0 (w'.heap[gb239]? = some (.cells #[(.slice A0_0 l0_0.length c0_0), (.slice A0_1 l0_1.length c0_1), (.slice A0_2 l0_2.length c0_2)] 36 (0, 0))) ∧ Aside0 (Below w.heap.size w w'))
       case atStart => exact ⟨(0), (by first | rfl | (simp; done) | (simp [*]; done)), H', ⟨Nat.le_refl _⟩, ⟨by (with_reducible repeat (first | refine blk_drewN ?_ _ | refine blk_drew ?_ | refine blk_alloc ?_ _)); exact BK239.out⟩, ⟨by repeat (first | (with_reducible first | exact HB.out | apply below_alloc | apply pw_below_drewN | apply below_drew1 | refine below_set ?_ GE239.out) | exact HB.out)⟩⟩
       case round =>
        clear H'
        try clear c1
        try clear c2
        try clear p2
        try clear q2
        try clear hx2
        try clear c4
        try clear c5
        try clear c6
        try clear p6
        try clear c14
        try clear c14b0
        try clear c15
        try clear c16
        try clear c18
        try clear p24
        try clear q24
        try clear hx24
        try clear c27
        try clear c28
        try clear c46
        try clear c46b0
        try clear c46b1
        try clear c55
        try clear c61
        try clear c63
        try clear p64
        (try clear hcz56_0; try clear hcz56_1; try clear hcz56_2; try clear hcz64_0; try clear hcz64_1; try clear hcz64_2; try clear hcz68_0; try clear hcz68_1; try clear hcz68_2; try clear hfz56_0; try clear hfz56_1; try clear hfz56_2; try clear hfz64_0; try clear hfz64_1; try clear hfz64_2; try clear hfz68_0; try clear hfz68_1; try clear hfz68_2; try clear hx243_0; try clear hx243_1; try clear hx243_2)
        try clear p243
        try clear q243
        obtain ⟨x63_3, rfl, HA, HK3, BK239, HB⟩ := hrel
        cases gk with
        | zero => exact absurd HA.out (by simp [impl_SourceOk.l2])
        | succ k3 =>
         have H := HA.out
         clear HA
         simp only [impl_SourceOk.l2] at H
         go_upto_if 64 with (fail)
         by_cases c69 : x63_3 < (l0_2.length : Int)
         ·rw [if_pos c69] at H
          have c69b0 : decide (x63_3 < (l0_2.length : Int)) = true := decide_eq_true c69
          clear c69
          (first | rw [c69b0] | (simp only [i64_w, i32_w]; rw [c69b0]) | skip)
          by_cases c70 : 0 ≤ x63_3
          ·rw [if_pos c70] at H
           have c70b0 : decide (0 ≤ x63_3) = true := decide_eq_true c70
           clear c70
           by_cases c71 : x63_3 < (l0_2.length : Int)
           ·rw [if_pos c71] at H
            have c71b0 : decide (x63_3 < (l0_2.length : Int)) = true := decide_eq_true c71
            clear c71
            replace H := Option.bind_eq_some_iff.mp H
            obtain ⟨t251, A720, H⟩ := H
            replace H : (if t251 = true then (if x63_3 > 0 then (if 0 ≤ (wrap64 (x63_3 - 1)) then (if (wrap64 (x63_3 - 1)) < (l0_2.length : Int) then (if ((rd_T47 l0_2 (wrap64 (x63_3 - 1))).f0) ≥ ((rd_T47 l0_2 x63_3).f0) then (some false) else ((impl_zoneAt.f l0_0 l0_1 l0_2 ((rd_T47 l0_2 x63_3).f1)).bind fun t253 => (if t253 < 0 then (some false) else ((impl_zoneAt.f l0_0 l0_1 l0_2 ((rd_T47 l0_2 x63_3).f0)).bind fun t254 => (if t254 ≥ 0 then (some false) else (impl_SourceOk.l2 k3 l0_2 (l0_2.length : Int) (wrap64 (x63_3 + 1)) l0_0 l0_1 l0_2)))))) else (none)) else (none)) else ((impl_zoneAt.f l0_0 l0_1 l0_2 ((rd_T47 l0_2 x63_3).f1)).bind fun t255 => (if t255 < 0 then (some false) else ((impl_zoneAt.f l0_0 l0_1 l0_2 ((rd_T47 l0_2 x63_3).f0)).bind fun t256 => (if t256 ≥ 0 then (some false) else (impl_SourceOk.l2 k3 l0_2 (l0_2.length : Int) (wrap64 (x63_3 + 1)) l0_0 l0_1 l0_2)))))) else (some false)) = some r := H
            have A72 := Aside0.mk A720
            clear A720
            by_cases c73 : t251 = true
            ·subst c73
             have H1 : (if x63_3 > 0 then (if 0 ≤ (wrap64 (x63_3 - 1)) then (if (wrap64 (x63_3 - 1)) < (l0_2.length : Int) then (if ((rd_T47 l0_2 (wrap64 (x63_3 - 1))).f0) ≥ ((rd_T47 l0_2 x63_3).f0) then (some false) else ((impl_zoneAt.f l0_0 l0_1 l0_2 ((rd_T47 l0_2 x63_3).f1)).bind fun t253 => (if t253 < 0 then (some false) else ((impl_zoneAt.f l0_0 l0_1 l0_2 ((rd_T47 l0_2 x63_3).f0)).bind fun t254 => (if t254 ≥ 0 then (some false) else (impl_SourceOk.l2 k3 l0_2 (l0_2.length : Int) (wrap64 (x63_3 + 1)) l0_0 l0_1 l0_2)))))) else (none)) else (none)) else ((impl_zoneAt.f l0_0 l0_1 l0_2 ((rd_T47 l0_2 x63_3).f1)).bind fun t255 => (if t255 < 0 then (some false) else ((impl_zoneAt.f l0_0 l0_1 l0_2 ((rd_T47 l0_2 x63_3).f0)).bind fun t256 => (if t256 ≥ 0 then (some false) else (impl_SourceOk.l2 k3 l0_2 (l0_2.length : Int) (wrap64 (x63_3 + 1)) l0_0 l0_1 l0_2)))))) = some r := by rw [if_pos rfl] at H; exact H
             clear H
             have H := H1
             clear H1
             by_cases c74 : x63_3 > 0
             ·rw [if_pos c74] at H
              have c74b0 : decide (0 < x63_3) = true := decide_eq_true c74
              clear c74
              obtain ⟨ji75, hji75⟩ : ∃ j_ : Int, (wrap64 (x63_3 - 1)) = j_ := ⟨_, rfl⟩
              replace H : (if 0 ≤ (ji75) then (if (ji75) < (l0_2.length : Int) then (if ((rd_T47 l0_2 (ji75)).f0) ≥ ((rd_T47 l0_2 x63_3).f0) then (some false) else ((impl_zoneAt.f l0_0 l0_1 l0_2 ((rd_T47 l0_2 x63_3).f1)).bind fun t253 => (if t253 < 0 then (some false) else ((impl_zoneAt.f l0_0 l0_1 l0_2 ((rd_T47 l0_2 x63_3).f0)).bind fun t254 => (if t254 ≥ 0 then (some false) else (impl_SourceOk.l2 k3 l0_2 (l0_2.length : Int) (wrap64 (x63_3 + 1)) l0_0 l0_1 l0_2)))))) else (none)) else (none)) = some r := by first | (rw [hji75] at H; exact H) | (simp only [hji75] at H ⊢; exact H)
              (try rw [hji75] at A72)
              have hji75w : (IntKind.i64.wrap (x63_3 - 1)) = ji75 := (i64_w _).trans hji75
              by_cases c76 : 0 ≤ (ji75)
              ·rw [if_pos c76] at H
               have c76b0 : decide (0 ≤ (ji75)) = true := decide_eq_true c76
               clear c76
               by_cases c77 : (ji75) < (l0_2.length : Int)
               ·rw [if_pos c77] at H
                have c77b0 : decide ((ji75) < (l0_2.length : Int)) = true := decide_eq_true c77
                clear c77
                by_cases c78 : ((rd_T47 l0_2 (ji75)).f0) ≥ ((rd_T47 l0_2 x63_3).f0)
                ·rw [if_pos c78] at H
                 have c78b0 : decide (((rd_T47 l0_2 x63_3).f0) ≤ ((rd_T47 l0_2 (ji75)).f0)) = true := decide_eq_true c78
                 clear c78
                 obtain rfl := Option.some.inj H
                 have p249 : 0 ≤ (x63_3 : Int) := of_decide_eq_true (by first | (with_reducible assumption) | assumption)
                 have q249 : x63_3 < (l0_2.length : Int) := of_decide_eq_true (by first | (with_reducible assumption) | assumption)
                 obtain ⟨ad249, e249, hx249_0, hx249_1⟩ := at_T47 HR0_2.out x63_3 p249 q249
                 cases e249
                 replace hx249_0 := (HB.out.cell (World.block_lt_of_cell? w _ hx249_0)).trans hx249_0
                 replace hx249_1 := (HB.out.cell (World.block_lt_of_cell? w _ hx249_1)).trans hx249_1
                 replace p249 := eq_true p249
                 replace q249 := eq_true q249
                 try go_wp2_with (first | ((with_reducible refine gate_dst (N := 8) rfl ?_); refine box_event ?hg (N := 8) ?hd (cs := #[.int .i64 0, .int .i64 0]) (t := 47) ?hr ?_; (case hd => rfl); (case hg => rfl); (case hr => first | (go_simp; done) | (go_simp; rfl)); intro gb250 hg w79 hbox hb; have n0_ := Aside0.mk (blk_below (g := gb239) (o := .cells #[.slice A0_0 l0_0.length c0_0, .slice A0_1 l0_1.length c0_1, .slice (some ad249) l0_2.length c0_2] 36 (0, 0)) (by (with_reducible repeat (first | refine blk_drewN ?_ _ | refine blk_drew ?_ | refine blk_alloc ?_ _)); exact BK239.out) hb); have n1_ := Aside0.mk (below_step (by repeat (first | (with_reducible first | exact HB.out | apply below_alloc | apply pw_below_drewN | apply below_drew1 | refine below_set ?_ GE239.out) | exact HB.out)) hb); have n2_ := Aside0.mk (hbox); have n3_ := Aside0.mk ((by rw [hg]; exact (below_size (by repeat (first | (with_reducible first | exact HB.out | apply below_alloc | apply pw_below_drewN | apply below_drew1 | refine below_set ?_ GE239.out) | exact HB.out))) : w.heap.size ≤ gb250)); have n4_ := Aside0.mk ((by rw [hg]; exact (below_size (by repeat (first | (with_reducible first | exact HB.out | apply below_alloc | apply pw_below_drewN | apply below_drew1 | refine below_set ?_ GE239.out) | exact HB.out))) : w.heap.size ≤ gb250)); have n5_ := Aside0.mk ((by rw [hg]; exact Nat.ne_of_lt (blk_lt (g := gb239) (o := .cells #[.slice A0_0 l0_0.length c0_0, .slice A0_1 l0_1.length c0_1, .slice (some ad249) l0_2.length c0_2] 36 (0, 0)) (by (with_reducible repeat (first | refine blk_drewN ?_ _ | refine blk_drew ?_ | refine blk_alloc ?_ _)); exact BK239.out)) : gb239 ≠ gb250)); have n6_ := Aside0.mk ((by rw [hg]; exact Nat.ne_of_gt (blk_lt (g := gb239) (o := .cells #[.slice A0_0 l0_0.length c0_0, .slice A0_1 l0_1.length c0_1, .slice (some ad249) l0_2.length c0_2] 36 (0, 0)) (by (with_reducible repeat (first | refine blk_drewN ?_ _ | refine blk_drew ?_ | refine blk_alloc ?_ _)); exact BK239.out)) : gb250 ≠ gb239)); clear BK239; clear HB; have BK239 := n0_; have HB := n1_; have BK250 := n2_; have GW250 := n3_; have GE250 := n4_; have NB239_250 := n5_; have NB250_239 := n6_; clear n0_ n1_ n2_ n3_ n4_ n5_ n6_; clear hb hbox hg; have hnb80 := NB250_239.out; have hnc80 := NB239_250.out; have hcz81_0 : w79.cell? ⟨gb250, 0, none⟩ = some (.int .i64 0) := (blk_cell BK250.out 0).trans rfl; have hcz81_1 : w79.cell? ⟨gb250, 1, none⟩ = some (.int .i64 0) := (blk_cell BK250.out 1).trans rfl; have hfz81_0 := blk_frozen BK250.out 0; have hfz81_1 := blk_frozen BK250.out 1))
                 have n0_ : Aside0 (((w79.setCell ⟨gb250, 0, none⟩ (.int .i64 ((rd_T47 l0_2 x63_3).f0))).setCell ⟨gb250, 1, none⟩ (.int .i64 ((rd_T47 l0_2 x63_3).f1))).heap[gb239]? = some (.cells #[.slice A0_0 l0_0.length c0_0, .slice A0_1 l0_1.length c0_1, .slice (some ad249) l0_2.length c0_2] 36 (0, 0))) := ⟨by (with_reducible repeat (first | refine blk_drewN ?_ _ | refine blk_drew ?_ | refine blk_alloc ?_ _)); refine blk_far ?_ NB239_250.out _; (with_reducible repeat (first | refine blk_drewN ?_ _ | refine blk_drew ?_ | refine blk_alloc ?_ _)); refine blk_far ?_ NB239_250.out _; (with_reducible repeat (first | refine blk_drewN ?_ _ | refine blk_drew ?_ | refine blk_alloc ?_ _)); exact BK239.out⟩
                 have n1_ : Aside0 (((w79.setCell ⟨gb250, 0, none⟩ (.int .i64 ((rd_T47 l0_2 x63_3).f0))).setCell ⟨gb250, 1, none⟩ (.int .i64 ((rd_T47 l0_2 x63_3).f1))).heap[gb250]? = some (.cells #[.int .i64 ((rd_T47 l0_2 x63_3).f0), .int .i64 ((rd_T47 l0_2 x63_3).f1)] 47 (0, 0))) := ⟨by (with_reducible repeat (first | refine blk_drewN ?_ _ | refine blk_drew ?_ | refine blk_alloc ?_ _)); refine blk_put (cs := #[.int .i64 ((rd_T47 l0_2 x63_3).f0), .int .i64 0]) ?_ 1 _ rfl; (with_reducible repeat (first | refine blk_drewN ?_ _ | refine blk_drew ?_ | refine blk_alloc ?_ _)); refine blk_put (cs := #[.int .i64 0, .int .i64 0]) ?_ 0 _ rfl; (with_reducible repeat (first | refine blk_drewN ?_ _ | refine blk_drew ?_ | refine blk_alloc ?_ _)); exact BK250.out⟩
                 have n2_ : Aside0 (Below w.heap.size w ((w79.setCell ⟨gb250, 0, none⟩ (.int .i64 ((rd_T47 l0_2 x63_3).f0))).setCell ⟨gb250, 1, none⟩ (.int .i64 ((rd_T47 l0_2 x63_3).f1)))) := ⟨by repeat (first | (with_reducible first | exact HB.out | apply below_alloc | apply pw_below_drewN | apply below_drew1 | refine below_set ?_ GE239.out | refine below_set ?_ GE250.out) | exact HB.out)⟩
                 (try clear BK239)
                 (try clear BK250)
                 (try clear HB)
                 generalize ((w79.setCell ⟨gb250, 0, none⟩ (.int .i64 ((rd_T47 l0_2 x63_3).f0))).setCell ⟨gb250, 1, none⟩ (.int .i64 ((rd_T47 l0_2 x63_3).f1))) = w82 at n0_ n1_ n2_ ⊢
                 have BK239 := n0_
                 have BK250 := n1_
                 have HB := n2_
                 clear n0_ n1_ n2_
                 have n0_ := Aside0.mk (blk_drew BK239.out)
                 have n1_ := Aside0.mk (blk_drew BK250.out)
                 have n2_ := Aside0.mk (below_drew1 HB.out)
                 clear BK239
                 clear BK250
                 clear HB
                 have BK239 := n0_
                 have BK250 := n1_
                 have HB := n2_
                 clear n0_ n1_ n2_
                 have p252 : 0 ≤ ((ji75) : Int) := of_decide_eq_true (by first | (with_reducible assumption) | assumption)
                 have q252 : (ji75) < (l0_2.length : Int) := of_decide_eq_true (by first | (with_reducible assumption) | assumption)
                 obtain ⟨ad252, e252, hx252_0, hx252_1⟩ := at_T47 HR0_2.out (ji75) p252 q252
                 have hw252_1 := hx252_1
                 have hw252_0 := hx252_0
                 obtain rfl : ad249 = ad252 := (by injection e252)
                 replace hx252_0 := (HB.out.cell (World.block_lt_of_cell? w _ hx252_0)).trans hx252_0
                 replace hx252_1 := (HB.out.cell (World.block_lt_of_cell? w _ hx252_1)).trans hx252_1
                 replace p252 := eq_true p252
                 replace q252 := eq_true q252
                 refine start_ (n := 34) (S := fun w' => w'.cell? ⟨gb250, 0, none⟩ = some (.int .i64 ((rd_T47 l0_2 x63_3).f0)) ∧ w'.cell? ⟨gb250, 1, none⟩ = some (.int .i64 ((rd_T47 l0_2 x63_3).f1)) ∧ w'.cell? ⟨gb239, 0, none⟩ = some (.slice A0_0 l0_0.length c0_0) ∧ w'.cell? ⟨gb239, 1, none⟩ = some (.slice A0_1 l0_1.length c0_1) ∧ w'.cell? ⟨gb239, 2, none⟩ = some (.slice (some ad249) l0_2.length c0_2) ∧ w'.cell? (ad249.add (((ji75)).toNat * 2)) = some (.int .i64 ((rd_T47 l0_2 (ji75)).f0)) ∧ w'.cell? ⟨(ad249.add (((ji75)).toNat * 2)).block, (ad249.add (((ji75)).toNat * 2)).off + 1, none⟩ = some (.int .i64 ((rd_T47 l0_2 (ji75)).f1))) (ds := []) m9_0 (by kernel_rfl) rfl rfl ⟨(blk_cell BK250.out 0).trans rfl, (blk_cell BK250.out 1).trans rfl, (blk_cell BK239.out 0).trans rfl, (blk_cell BK239.out 1).trans rfl, (blk_cell BK239.out 2).trans rfl, ((HB.out.cell (World.block_lt_of_cell? w _ hw252_0)).trans hw252_0), ((HB.out.cell (World.block_lt_of_cell? w _ hw252_1)).trans hw252_1)⟩ (fun hHeld => ?_); refine with_tabW impl_SourceOk.tab16 impl_SourceOk.bits16 (fun HT_ HW_ => ?_)
                 generalize w82.drew = w83 at BK239 BK250 HB hx252_0 hx252_1 hHeld ⊢
                 refine p9_ 0 (some 68) m9_1 (any_of HT_.out (by kernel_rfl)) ?_
                 refine take_ (i := 1) (N := some 69) (v := ?_) (a' := ?_) m9_2 rfl rfl (take_ofW HT_.out HW_.out (by kernel_rfl)) (fun _ _ _ h => h) (Or.inl ⟨by rfl, ?_⟩) hHeld ?_ ?_
                 rotate_left
                 ·rintro w' ⟨s0, s1, s2, s3, s4, s5, s6⟩
                  go_simp
                  with_reducible rfl
                 rotate_left
                 ·simp only [Act.put, List.setIfInBounds_toArray, List.set_cons_zero, List.set_cons_succ, i64_w, i32_w]
                  rfl
                 refine one_ (i := 2) (N := some 70) m9_3 rfl rfl (one_of HT_.out (by kernel_rfl)) (by decide) (fun K hK => ?_)
                 refine goes_ Try.func29 (by kernel_rfl) rfl #[.int .i64 ((rd_T47 l0_2 x63_3).f0)] (by rfl) rfl rfl (by (try simp only [List.map_toArray, List.map_cons, List.map_nil]); first | done | rfl | (simp only [List.length_drop, List.length_take]; rfl)) ?_
                 with_reducible refine (impl_isGreat.calls ((rd_T47 l0_2 x63_3).f0) true _ A72.out).mono ?_
                 rintro e w' ⟨rfl, ⟨nd, rfl⟩⟩
                 refine ⟨_, rfl, ?_⟩
                 refine hK.out _ _ ⟨(blk_cell BK250.out 0).trans rfl, (blk_cell BK250.out 1).trans rfl, (blk_cell BK239.out 0).trans rfl, (blk_cell BK239.out 1).trans rfl, (blk_cell BK239.out 2).trans rfl, ((HB.out.cell (World.block_lt_of_cell? w _ hw252_0)).trans hw252_0), ((HB.out.cell (World.block_lt_of_cell? w _ hw252_1)).trans hw252_1)⟩ (fun hHeld => ?_)
                 clear hK K
                 refine norm_ (a' := ?_) ?_ ?_
                 rotate_left
                 ·show Act.put _ (some 70) _ = _
                  simp only [Act.put, List.setIfInBounds_toArray, List.set_cons_zero, List.set_cons_succ, i64_w, i32_w]
                  rfl
                 refine p9_ 3 (some 71) m9_4 (any_of HT_.out (by kernel_rfl)) ?_
                 refine p9_ 4 (some 72) m9_5 (any_of HT_.out (by kernel_rfl)) ?_
                 refine p9_ 5 (some 73) m9_6 (any_of HT_.out (by kernel_rfl)) ?_
                 refine p9_ 6 (some 74) m9_7 (any_of HT_.out (by kernel_rfl)) ?_
                 refine p9_ 7 (some 75) m9_8 (any_of HT_.out (by kernel_rfl)) ?_
                 refine p9_ 8 (some 76) m9_9 (any_of HT_.out (by kernel_rfl)) ?_
                 refine p9_ 10 (some 78) m9_55 (any_of HT_.out (by kernel_rfl)) ?_
                 refine p9_ 11 (some 79) m9_57 (any_of HT_.out (by kernel_rfl)) ?_
                 refine p9_ 15 (some 83) m9_59 (any_of HT_.out (by kernel_rfl)) ?_
                 refine take_ (i := 9) (N := some 77) (v := ?_) (a' := ?_) m9_61 rfl rfl (take_ofW HT_.out HW_.out (by kernel_rfl)) (fun _ _ _ h => h) (Or.inl ⟨by rfl, ?_⟩) hHeld ?_ ?_
                 rotate_left
                 ·rintro w' ⟨s0, s1, s2, s3, s4, s5, s6⟩
                  go_simp
                  with_reducible rfl
                 rotate_left
                 ·simp only [Act.put, List.setIfInBounds_toArray, List.set_cons_zero, List.set_cons_succ, i64_w, i32_w]
                  rfl
                 refine p9_ 12 (some 80) m9_63 (any_of HT_.out (by kernel_rfl)) ?_
                 refine p9_ 13 (some 81) m9_65 (any_of HT_.out (by kernel_rfl)) ?_
                 refine take_ (i := 14) (N := some 82) (v := ?_) (a' := ?_) m9_10 rfl rfl (take_ofW HT_.out HW_.out (by kernel_rfl)) (fun _ _ _ h => h) (Or.inl ⟨by rfl, ?_⟩) hHeld ?_ ?_
                 rotate_left
                 ·rintro w' ⟨s0, s1, s2, s3, s4, s5, s6⟩
                  go_simp
                  with_reducible rfl
                 rotate_left
                 ·simp only [Act.put, List.setIfInBounds_toArray, List.set_cons_zero, List.set_cons_succ, i64_w, i32_w]
                  rfl
                 refine take_ (i := 16) (N := some 84) (v := ?_) (a' := ?_) m9_11 rfl rfl (take_ofW HT_.out HW_.out (by kernel_rfl)) (fun _ _ _ h => h) (Or.inl ⟨by rfl, ?_⟩) hHeld ?_ ?_
                 rotate_left
                 ·rintro w' ⟨s0, s1, s2, s3, s4, s5, s6⟩
                  go_simp
                  with_reducible rfl
                 rotate_left
                 ·simp only [Act.put, List.setIfInBounds_toArray, List.set_cons_zero, List.set_cons_succ, i64_w, i32_w]
                  rfl
                 refine p9_ 17 (some 85) m9_12 (any_of HT_.out (by kernel_rfl)) ?_
                 refine p9_ 18 (some 86) m9_13 (any_of HT_.out (by kernel_rfl)) ?_
                 refine p9_ 19 (some 87) m9_14 (any_of HT_.out (by kernel_rfl)) ?_
                 refine p9_ 20 (some 88) m9_16 (any_of HT_.out (by kernel_rfl)) ?_
                 refine u9_ 21 (some 89) m9_79 (any_of HT_.out (by kernel_rfl)) ?_
                 refine u9_ 22 (some 90) m9_19 (any_of HT_.out (by kernel_rfl)) ?_
                 refine u9_ 23 (some 91) m9_21 (any_of HT_.out (by kernel_rfl)) ?_
                 refine u9_ 24 (some 92) m9_23 (any_of HT_.out (by kernel_rfl)) ?_
                 refine u9_ 25 (some 93) m9_25 (any_of HT_.out (by kernel_rfl)) ?_
                 refine p9_ 26 (some 94) m9_27 (any_of HT_.out (by kernel_rfl)) ?_
                 refine p9_ 27 (some 95) m9_29 (any_of HT_.out (by kernel_rfl)) ?_
                 refine u9_ 28 (some 96) m9_53 (any_of HT_.out (by kernel_rfl)) ?_
                 refine u9_ 29 (some 97) m9_31 (any_of HT_.out (by kernel_rfl)) ?_
                 refine u9_ 30 (some 98) m9_32 (any_of HT_.out (by kernel_rfl)) ?_
                 refine u9_ 31 (some 99) m9_33 (any_of HT_.out (by kernel_rfl)) ?_
                 refine u9_ 32 (some 100) m9_34 (any_of HT_.out (by kernel_rfl)) ?_
                 refine p9_ 33 (some 101) m9_35 (any_of HT_.out (by kernel_rfl)) ?_
                 refine done_ (done_of HT_.out (by kernel_rfl)) ?_
                 try go_wp2
                 go_ret
                 exact ⟨by first | rfl | (simp [errW_none, errW_some] <;> rfl) | (simp only [← hji75]; first | rfl | (simp [errW_none, errW_some] <;> rfl)) | (simp [*, errW_none, errW_some] <;> rfl), by repeat (first | (with_reducible first | exact HB.out | apply below_alloc | apply pw_below_drewN | apply below_drew1 | refine below_set ?_ GE239.out | refine below_set ?_ GE250.out) | exact HB.out)⟩
                ·rw [if_neg c78] at H
                 have c78b0 : decide (((rd_T47 l0_2 x63_3).f0) ≤ ((rd_T47 l0_2 (ji75)).f0)) = false := decide_eq_false c78
                 clear c78
                 replace H := Option.bind_eq_some_iff.mp H
                 obtain ⟨t253, A840, H⟩ := H
                 replace H : (if t253 < 0 then (some false) else ((impl_zoneAt.f l0_0 l0_1 l0_2 ((rd_T47 l0_2 x63_3).f0)).bind fun t254 => (if t254 ≥ 0 then (some false) else (impl_SourceOk.l2 k3 l0_2 (l0_2.length : Int) (wrap64 (x63_3 + 1)) l0_0 l0_1 l0_2)))) = some r := H
                 have A84 := Aside0.mk A840
                 clear A840
                 by_cases c85 : t253 < 0
                 ·rw [if_pos c85] at H
                  have c85b0 : decide (t253 < 0) = true := decide_eq_true c85
                  clear c85
                  obtain rfl := Option.some.inj H
                  have p249 : 0 ≤ (x63_3 : Int) := of_decide_eq_true (by first | (with_reducible assumption) | assumption)
                  have q249 : x63_3 < (l0_2.length : Int) := of_decide_eq_true (by first | (with_reducible assumption) | assumption)
                  obtain ⟨ad249, e249, hx249_0, hx249_1⟩ := at_T47 HR0_2.out x63_3 p249 q249
                  cases e249
                  replace hx249_0 := (HB.out.cell (World.block_lt_of_cell? w _ hx249_0)).trans hx249_0
                  replace hx249_1 := (HB.out.cell (World.block_lt_of_cell? w _ hx249_1)).trans hx249_1
                  replace p249 := eq_true p249
                  replace q249 := eq_true q249
                  try go_wp2_with (first | ((with_reducible refine gate_dst (N := 8) rfl ?_); refine box_event ?hg (N := 8) ?hd (cs := #[.int .i64 0, .int .i64 0]) (t := 47) ?hr ?_; (case hd => rfl); (case hg => rfl); (case hr => first | (go_simp; done) | (go_simp; rfl)); intro gb250 hg w86 hbox hb; have n0_ := Aside0.mk (blk_below (g := gb239) (o := .cells #[.slice A0_0 l0_0.length c0_0, .slice A0_1 l0_1.length c0_1, .slice (some ad249) l0_2.length c0_2] 36 (0, 0)) (by (with_reducible repeat (first | refine blk_drewN ?_ _ | refine blk_drew ?_ | refine blk_alloc ?_ _)); exact BK239.out) hb); have n1_ := Aside0.mk (below_step (by repeat (first | (with_reducible first | exact HB.out | apply below_alloc | apply pw_below_drewN | apply below_drew1 | refine below_set ?_ GE239.out) | exact HB.out)) hb); have n2_ := Aside0.mk (hbox); have n3_ := Aside0.mk ((by rw [hg]; exact (below_size (by repeat (first | (with_reducible first | exact HB.out | apply below_alloc | apply pw_below_drewN | apply below_drew1 | refine below_set ?_ GE239.out) | exact HB.out))) : w.heap.size ≤ gb250)); have n4_ := Aside0.mk ((by rw [hg]; exact (below_size (by repeat (first | (with_reducible first | exact HB.out | apply below_alloc | apply pw_below_drewN | apply below_drew1 | refine below_set ?_ GE239.out) | exact HB.out))) : w.heap.size ≤ gb250)); have n5_ := Aside0.mk ((by rw [hg]; exact Nat.ne_of_lt (blk_lt (g := gb239) (o := .cells #[.slice A0_0 l0_0.length c0_0, .slice A0_1 l0_1.length c0_1, .slice (some ad249) l0_2.length c0_2] 36 (0, 0)) (by (with_reducible repeat (first | refine blk_drewN ?_ _ | refine blk_drew ?_ | refine blk_alloc ?_ _)); exact BK239.out)) : gb239 ≠ gb250)); have n6_ := Aside0.mk ((by rw [hg]; exact Nat.ne_of_gt (blk_lt (g := gb239) (o := .cells #[.slice A0_0 l0_0.length c0_0, .slice A0_1 l0_1.length c0_1, .slice (some ad249) l0_2.length c0_2] 36 (0, 0)) (by (with_reducible repeat (first | refine blk_drewN ?_ _ | refine blk_drew ?_ | refine blk_alloc ?_ _)); exact BK239.out)) : gb250 ≠ gb239)); clear BK239; clear HB; have BK239 := n0_; have HB := n1_; have BK250 := n2_; have GW250 := n3_; have GE250 := n4_; have NB239_250 := n5_; have NB250_239 := n6_; clear n0_ n1_ n2_ n3_ n4_ n5_ n6_; clear hb hbox hg; have hnb87 := NB250_239.out; have hnc87 := NB239_250.out; have hcz88_0 : w86.cell? ⟨gb250, 0, none⟩ = some (.int .i64 0) := (blk_cell BK250.out 0).trans rfl; have hcz88_1 : w86.cell? ⟨gb250, 1, none⟩ = some (.int .i64 0) := (blk_cell BK250.out 1).trans rfl; have hfz88_0 := blk_frozen BK250.out 0; have hfz88_1 := blk_frozen BK250.out 1))
                  have n0_ : Aside0 (((w86.setCell ⟨gb250, 0, none⟩ (.int .i64 ((rd_T47 l0_2 x63_3).f0))).setCell ⟨gb250, 1, none⟩ (.int .i64 ((rd_T47 l0_2 x63_3).f1))).heap[gb239]? = some (.cells #[.slice A0_0 l0_0.length c0_0, .slice A0_1 l0_1.length c0_1, .slice (some ad249) l0_2.length c0_2] 36 (0, 0))) := ⟨by (with_reducible repeat (first | refine blk_drewN ?_ _ | refine blk_drew ?_ | refine blk_alloc ?_ _)); refine blk_far ?_ NB239_250.out _; (with_reducible repeat (first | refine blk_drewN ?_ _ | refine blk_drew ?_ | refine blk_alloc ?_ _)); refine blk_far ?_ NB239_250.out _; (with_reducible repeat (first | refine blk_drewN ?_ _ | refine blk_drew ?_ | refine blk_alloc ?_ _)); exact BK239.out⟩
                  have n1_ : Aside0 (((w86.setCell ⟨gb250, 0, none⟩ (.int .i64 ((rd_T47 l0_2 x63_3).f0))).setCell ⟨gb250, 1, none⟩ (.int .i64 ((rd_T47 l0_2 x63_3).f1))).heap[gb250]? = some (.cells #[.int .i64 ((rd_T47 l0_2 x63_3).f0), .int .i64 ((rd_T47 l0_2 x63_3).f1)] 47 (0, 0))) := ⟨by (with_reducible repeat (first | refine blk_drewN ?_ _ | refine blk_drew ?_ | refine blk_alloc ?_ _)); refine blk_put (cs := #[.int .i64 ((rd_T47 l0_2 x63_3).f0), .int .i64 0]) ?_ 1 _ rfl; (with_reducible repeat (first | refine blk_drewN ?_ _ | refine blk_drew ?_ | refine blk_alloc ?_ _)); refine blk_put (cs := #[.int .i64 0, .int .i64 0]) ?_ 0 _ rfl; (with_reducible repeat (first | refine blk_drewN ?_ _ | refine blk_drew ?_ | refine blk_alloc ?_ _)); exact BK250.out⟩
                  have n2_ : Aside0 (Below w.heap.size w ((w86.setCell ⟨gb250, 0, none⟩ (.int .i64 ((rd_T47 l0_2 x63_3).f0))).setCell ⟨gb250, 1, none⟩ (.int .i64 ((rd_T47 l0_2 x63_3).f1)))) := ⟨by repeat (first | (with_reducible first | exact HB.out | apply below_alloc | apply pw_below_drewN | apply below_drew1 | refine below_set ?_ GE239.out | refine below_set ?_ GE250.out) | exact HB.out)⟩
                  (try clear BK239)
                  (try clear BK250)
                  (try clear HB)
                  generalize ((w86.setCell ⟨gb250, 0, none⟩ (.int .i64 ((rd_T47 l0_2 x63_3).f0))).setCell ⟨gb250, 1, none⟩ (.int .i64 ((rd_T47 l0_2 x63_3).f1))) = w89 at n0_ n1_ n2_ ⊢
                  have BK239 := n0_
                  have BK250 := n1_
                  have HB := n2_
                  clear n0_ n1_ n2_
                  have n0_ := Aside0.mk (blk_drew BK239.out)
                  have n1_ := Aside0.mk (blk_drew BK250.out)
                  have n2_ := Aside0.mk (below_drew1 HB.out)
                  clear BK239
                  clear BK250
                  clear HB
                  have BK239 := n0_
                  have BK250 := n1_
                  have HB := n2_
                  clear n0_ n1_ n2_
                  have p252 : 0 ≤ ((ji75) : Int) := of_decide_eq_true (by first | (with_reducible assumption) | assumption)
                  have q252 : (ji75) < (l0_2.length : Int) := of_decide_eq_true (by first | (with_reducible assumption) | assumption)
                  obtain ⟨ad252, e252, hx252_0, hx252_1⟩ := at_T47 HR0_2.out (ji75) p252 q252
                  have hw252_1 := hx252_1
                  have hw252_0 := hx252_0
                  obtain rfl : ad249 = ad252 := (by injection e252)
                  replace hx252_0 := (HB.out.cell (World.block_lt_of_cell? w _ hx252_0)).trans hx252_0
                  replace hx252_1 := (HB.out.cell (World.block_lt_of_cell? w _ hx252_1)).trans hx252_1
                  replace p252 := eq_true p252
                  replace q252 := eq_true q252
                  refine start_ (n := 34) (S := fun w' => w'.cell? ⟨gb250, 0, none⟩ = some (.int .i64 ((rd_T47 l0_2 x63_3).f0)) ∧ w'.cell? ⟨gb250, 1, none⟩ = some (.int .i64 ((rd_T47 l0_2 x63_3).f1)) ∧ w'.cell? ⟨gb239, 0, none⟩ = some (.slice A0_0 l0_0.length c0_0) ∧ w'.cell? ⟨gb239, 1, none⟩ = some (.slice A0_1 l0_1.length c0_1) ∧ w'.cell? ⟨gb239, 2, none⟩ = some (.slice (some ad249) l0_2.length c0_2) ∧ w'.cell? (ad249.add (((ji75)).toNat * 2)) = some (.int .i64 ((rd_T47 l0_2 (ji75)).f0)) ∧ w'.cell? ⟨(ad249.add (((ji75)).toNat * 2)).block, (ad249.add (((ji75)).toNat * 2)).off + 1, none⟩ = some (.int .i64 ((rd_T47 l0_2 (ji75)).f1))) (ds := []) m9_0 (by kernel_rfl) rfl rfl ⟨(blk_cell BK250.out 0).trans rfl, (blk_cell BK250.out 1).trans rfl, (blk_cell BK239.out 0).trans rfl, (blk_cell BK239.out 1).trans rfl, (blk_cell BK239.out 2).trans rfl, ((HB.out.cell (World.block_lt_of_cell? w _ hw252_0)).trans hw252_0), ((HB.out.cell (World.block_lt_of_cell? w _ hw252_1)).trans hw252_1)⟩ (fun hHeld => ?_); refine with_tabW impl_SourceOk.tab16 impl_SourceOk.bits16 (fun HT_ HW_ => ?_)
                  generalize w89.drew = w90 at BK239 BK250 HB hx252_0 hx252_1 hHeld ⊢
                  refine p9_ 0 (some 68) m9_1 (any_of HT_.out (by kernel_rfl)) ?_
                  refine take_ (i := 1) (N := some 69) (v := ?_) (a' := ?_) m9_2 rfl rfl (take_ofW HT_.out HW_.out (by kernel_rfl)) (fun _ _ _ h => h) (Or.inl ⟨by rfl, ?_⟩) hHeld ?_ ?_
                  rotate_left
                  ·rintro w' ⟨s0, s1, s2, s3, s4, s5, s6⟩
                   go_simp
                   with_reducible rfl
                  rotate_left
                  ·simp only [Act.put, List.setIfInBounds_toArray, List.set_cons_zero, List.set_cons_succ, i64_w, i32_w]
                   rfl
                  refine one_ (i := 2) (N := some 70) m9_3 rfl rfl (one_of HT_.out (by kernel_rfl)) (by decide) (fun K hK => ?_)
                  refine goes_ Try.func29 (by kernel_rfl) rfl #[.int .i64 ((rd_T47 l0_2 x63_3).f0)] (by rfl) rfl rfl (by (try simp only [List.map_toArray, List.map_cons, List.map_nil]); first | done | rfl | (simp only [List.length_drop, List.length_take]; rfl)) ?_
                  with_reducible refine (impl_isGreat.calls ((rd_T47 l0_2 x63_3).f0) true _ A72.out).mono ?_
                  rintro e w' ⟨rfl, ⟨nd, rfl⟩⟩
                  refine ⟨_, rfl, ?_⟩
                  refine hK.out _ _ ⟨(blk_cell BK250.out 0).trans rfl, (blk_cell BK250.out 1).trans rfl, (blk_cell BK239.out 0).trans rfl, (blk_cell BK239.out 1).trans rfl, (blk_cell BK239.out 2).trans rfl, ((HB.out.cell (World.block_lt_of_cell? w _ hw252_0)).trans hw252_0), ((HB.out.cell (World.block_lt_of_cell? w _ hw252_1)).trans hw252_1)⟩ (fun hHeld => ?_)
                  clear hK K
                  refine norm_ (a' := ?_) ?_ ?_
                  rotate_left
                  ·show Act.put _ (some 70) _ = _
                   simp only [Act.put, List.setIfInBounds_toArray, List.set_cons_zero, List.set_cons_succ, i64_w, i32_w]
                   rfl
                  refine p9_ 3 (some 71) m9_4 (any_of HT_.out (by kernel_rfl)) ?_
                  refine p9_ 4 (some 72) m9_5 (any_of HT_.out (by kernel_rfl)) ?_
                  refine p9_ 5 (some 73) m9_6 (any_of HT_.out (by kernel_rfl)) ?_
                  refine p9_ 6 (some 74) m9_7 (any_of HT_.out (by kernel_rfl)) ?_
                  refine p9_ 7 (some 75) m9_8 (any_of HT_.out (by kernel_rfl)) ?_
                  refine p9_ 8 (some 76) m9_9 (any_of HT_.out (by kernel_rfl)) ?_
                  refine p9_ 10 (some 78) m9_55 (any_of HT_.out (by kernel_rfl)) ?_
                  refine p9_ 11 (some 79) m9_57 (any_of HT_.out (by kernel_rfl)) ?_
                  refine p9_ 15 (some 83) m9_59 (any_of HT_.out (by kernel_rfl)) ?_
                  refine take_ (i := 9) (N := some 77) (v := ?_) (a' := ?_) m9_61 rfl rfl (take_ofW HT_.out HW_.out (by kernel_rfl)) (fun _ _ _ h => h) (Or.inl ⟨by rfl, ?_⟩) hHeld ?_ ?_
                  rotate_left
                  ·rintro w' ⟨s0, s1, s2, s3, s4, s5, s6⟩
                   go_simp
                   with_reducible rfl
                  rotate_left
                  ·simp only [Act.put, List.setIfInBounds_toArray, List.set_cons_zero, List.set_cons_succ, i64_w, i32_w]
                   rfl
                  refine p9_ 12 (some 80) m9_63 (any_of HT_.out (by kernel_rfl)) ?_
                  refine p9_ 13 (some 81) m9_65 (any_of HT_.out (by kernel_rfl)) ?_
                  refine take_ (i := 14) (N := some 82) (v := ?_) (a' := ?_) m9_10 rfl rfl (take_ofW HT_.out HW_.out (by kernel_rfl)) (fun _ _ _ h => h) (Or.inl ⟨by rfl, ?_⟩) hHeld ?_ ?_
                  rotate_left
                  ·rintro w' ⟨s0, s1, s2, s3, s4, s5, s6⟩
                   go_simp
                   with_reducible rfl
                  rotate_left
                  ·simp only [Act.put, List.setIfInBounds_toArray, List.set_cons_zero, List.set_cons_succ, i64_w, i32_w]
                   rfl
                  refine take_ (i := 16) (N := some 84) (v := ?_) (a' := ?_) m9_11 rfl rfl (take_ofW HT_.out HW_.out (by kernel_rfl)) (fun _ _ _ h => h) (Or.inl ⟨by rfl, ?_⟩) hHeld ?_ ?_
                  rotate_left
                  ·rintro w' ⟨s0, s1, s2, s3, s4, s5, s6⟩
                   go_simp
                   with_reducible rfl
                  rotate_left
                  ·simp only [Act.put, List.setIfInBounds_toArray, List.set_cons_zero, List.set_cons_succ, i64_w, i32_w]
                   rfl
                  refine p9_ 17 (some 85) m9_12 (any_of HT_.out (by kernel_rfl)) ?_
                  refine p9_ 18 (some 86) m9_13 (any_of HT_.out (by kernel_rfl)) ?_
                  refine p9_ 19 (some 87) m9_14 (any_of HT_.out (by kernel_rfl)) ?_
                  refine p9_ 20 (some 88) m9_16 (any_of HT_.out (by kernel_rfl)) ?_
                  refine p9_ 22 (some 90) m9_52 (any_of HT_.out (by kernel_rfl)) ?_
                  refine take_ (i := 21) (N := some 89) (v := ?_) (a' := ?_) m9_19 rfl rfl (take_ofW HT_.out HW_.out (by kernel_rfl)) (fun _ _ _ h => h) (Or.inl ⟨by rfl, ?_⟩) hHeld ?_ ?_
                  rotate_left
                  ·rintro w' ⟨s0, s1, s2, s3, s4, s5, s6⟩
                   go_simp
                   with_reducible rfl
                  rotate_left
                  ·simp only [Act.put, List.setIfInBounds_toArray, List.set_cons_zero, List.set_cons_succ, i64_w, i32_w]
                   rfl
                  refine take_ (i := 23) (N := some 91) (v := ?_) (a' := ?_) m9_21 rfl rfl (take_ofW HT_.out HW_.out (by kernel_rfl)) (fun _ _ _ h => h) (Or.inl ⟨by rfl, ?_⟩) hHeld ?_ ?_
                  rotate_left
                  ·rintro w' ⟨s0, s1, s2, s3, s4, s5, s6⟩
                   go_simp
                   with_reducible rfl
                  rotate_left
                  ·simp only [Act.put, List.setIfInBounds_toArray, List.set_cons_zero, List.set_cons_succ, i64_w, i32_w]
                   rfl
                  refine one_ (i := 24) (N := some 92) m9_23 rfl rfl (one_of HT_.out (by kernel_rfl)) (by decide) (fun K hK => ?_)
                  refine goes_ Try.func19 (by kernel_rfl) rfl #[.agg #[.slice A0_0 l0_0.length c0_0, .slice A0_1 l0_1.length c0_1, .slice (some ad249) l0_2.length c0_2], .int .i64 ((rd_T47 l0_2 x63_3).f1)] (by rfl) rfl rfl (by (try simp only [List.map_toArray, List.map_cons, List.map_nil]); first | done | rfl | (simp only [List.length_drop, List.length_take]; rfl)) ?_
                  with_reducible refine (impl_zoneAt.calls _ _ l0_0 _ _ l0_1 _ _ l0_2 ((rd_T47 l0_2 x63_3).f1) t253 _ ?side1 ?side2 ?side3 ?side4 ?side5 ?side6 A84.out).mono ?_
                  (case side1 => repeat (first | exact (Kd.C_below HR0_0.out (by repeat (first | (with_reducible first | exact HB.out | apply below_alloc | apply pw_below_drewN | apply below_drew1 | refine below_set ?_ GE239.out | refine below_set ?_ GE250.out) | exact HB.out))) | (with_reducible refine Kd.C_alloc ?_ _) | (with_reducible refine Kd.C_drewN ?_ _) | (with_reducible refine Kd.C_drew ?_)))
                  (case side2 => exact HC0_0.out)
                  (case side3 => repeat (first | exact (Kd.C_below HR0_1.out (by repeat (first | (with_reducible first | exact HB.out | apply below_alloc | apply pw_below_drewN | apply below_drew1 | refine below_set ?_ GE239.out | refine below_set ?_ GE250.out) | exact HB.out))) | (with_reducible refine Kd.C_alloc ?_ _) | (with_reducible refine Kd.C_drewN ?_ _) | (with_reducible refine Kd.C_drew ?_)))
                  (case side4 => exact HC0_1.out)
                  (case side5 => repeat (first | exact (Kd.C_below HR0_2.out (by repeat (first | (with_reducible first | exact HB.out | apply below_alloc | apply pw_below_drewN | apply below_drew1 | refine below_set ?_ GE239.out | refine below_set ?_ GE250.out) | exact HB.out))) | (with_reducible refine Kd.C_alloc ?_ _) | (with_reducible refine Kd.C_drewN ?_ _) | (with_reducible refine Kd.C_drew ?_)))
                  (case side6 => exact HC0_2.out)
                  rintro e w91 ⟨rfl, hb⟩
                  refine ⟨_, rfl, ?_⟩
                  have n0_ := Aside0.mk (blk_below (g := gb239) (o := .cells #[.slice A0_0 l0_0.length c0_0, .slice A0_1 l0_1.length c0_1, .slice (some ad249) l0_2.length c0_2] 36 (0, 0)) (by (with_reducible repeat (first | refine blk_drewN ?_ _ | refine blk_drew ?_ | refine blk_alloc ?_ _)); exact BK239.out) hb)
                  have n1_ := Aside0.mk (blk_below (g := gb250) (o := .cells #[.int .i64 ((rd_T47 l0_2 x63_3).f0), .int .i64 ((rd_T47 l0_2 x63_3).f1)] 47 (0, 0)) (by (with_reducible repeat (first | refine blk_drewN ?_ _ | refine blk_drew ?_ | refine blk_alloc ?_ _)); exact BK250.out) hb)
                  have n2_ := Aside0.mk (below_step (by repeat (first | (with_reducible first | exact HB.out | apply below_alloc | apply pw_below_drewN | apply below_drew1 | refine below_set ?_ GE239.out | refine below_set ?_ GE250.out) | exact HB.out)) hb)
                  clear BK239
                  clear BK250
                  clear HB
                  have BK239 := n0_
                  have BK250 := n1_
                  have HB := n2_
                  clear n0_ n1_ n2_
                  (try clear hb)
                  (try clear hb2)
                  (try clear hk)
                  (try clear hi)
                  refine hK.out _ _ ⟨(blk_cell BK250.out 0).trans rfl, (blk_cell BK250.out 1).trans rfl, (blk_cell BK239.out 0).trans rfl, (blk_cell BK239.out 1).trans rfl, (blk_cell BK239.out 2).trans rfl, ((HB.out.cell (World.block_lt_of_cell? w _ hw252_0)).trans hw252_0), ((HB.out.cell (World.block_lt_of_cell? w _ hw252_1)).trans hw252_1)⟩ (fun hHeld => ?_)
                  clear hK K
                  refine norm_ (a' := ?_) ?_ ?_
                  rotate_left
                  ·show Act.put _ (some 92) _ = _
                   simp only [Act.put, List.setIfInBounds_toArray, List.set_cons_zero, List.set_cons_succ, i64_w, i32_w]
                   rfl
                  refine p9_ 25 (some 93) m9_25 (any_of HT_.out (by kernel_rfl)) ?_
                  refine p9_ 26 (some 94) m9_27 (any_of HT_.out (by kernel_rfl)) ?_
                  refine p9_ 27 (some 95) m9_29 (any_of HT_.out (by kernel_rfl)) ?_
                  refine u9_ 28 (some 96) m9_53 (any_of HT_.out (by kernel_rfl)) ?_
                  refine u9_ 29 (some 97) m9_31 (any_of HT_.out (by kernel_rfl)) ?_
                  refine u9_ 30 (some 98) m9_32 (any_of HT_.out (by kernel_rfl)) ?_
                  refine u9_ 31 (some 99) m9_33 (any_of HT_.out (by kernel_rfl)) ?_
                  refine u9_ 32 (some 100) m9_34 (any_of HT_.out (by kernel_rfl)) ?_
                  refine p9_ 33 (some 101) m9_35 (any_of HT_.out (by kernel_rfl)) ?_
                  refine done_ (done_of HT_.out (by kernel_rfl)) ?_
                  try go_wp2
                  go_ret
                  exact ⟨by first | rfl | (simp [errW_none, errW_some] <;> rfl) | (simp only [← hji75]; first | rfl | (simp [errW_none, errW_some] <;> rfl)) | (simp [*, errW_none, errW_some] <;> rfl), by repeat (first | (with_reducible first | exact HB.out | apply below_alloc | apply pw_below_drewN | apply below_drew1 | refine below_set ?_ GE239.out | refine below_set ?_ GE250.out) | exact HB.out)⟩
                 ·rw [if_neg c85] at H
                  have c85b0 : decide (t253 < 0) = false := decide_eq_false c85
                  clear c85
                  replace H := Option.bind_eq_some_iff.mp H
                  obtain ⟨t254, A920, H⟩ := H
                  replace H : (if t254 ≥ 0 then (some false) else (impl_SourceOk.l2 k3 l0_2 (l0_2.length : Int) (wrap64 (x63_3 + 1)) l0_0 l0_1 l0_2)) = some r := H
                  have A92 := Aside0.mk A920
                  clear A920
                  have p249 : 0 ≤ (x63_3 : Int) := of_decide_eq_true (by first | (with_reducible assumption) | assumption)
                  have q249 : x63_3 < (l0_2.length : Int) := of_decide_eq_true (by first | (with_reducible assumption) | assumption)
                  obtain ⟨ad249, e249, hx249_0, hx249_1⟩ := at_T47 HR0_2.out x63_3 p249 q249
                  cases e249
                  replace hx249_0 := (HB.out.cell (World.block_lt_of_cell? w _ hx249_0)).trans hx249_0
                  replace hx249_1 := (HB.out.cell (World.block_lt_of_cell? w _ hx249_1)).trans hx249_1
                  replace p249 := eq_true p249
                  replace q249 := eq_true q249
                  try go_wp2_with (first | ((with_reducible refine gate_dst (N := 8) rfl ?_); refine box_event ?hg (N := 8) ?hd (cs := #[.int .i64 0, .int .i64 0]) (t := 47) ?hr ?_; (case hd => rfl); (case hg => rfl); (case hr => first | (go_simp; done) | (go_simp; rfl)); intro gb250 hg w93 hbox hb; have n0_ := Aside0.mk (blk_below (g := gb239) (o := .cells #[.slice A0_0 l0_0.length c0_0, .slice A0_1 l0_1.length c0_1, .slice (some ad249) l0_2.length c0_2] 36 (0, 0)) (by (with_reducible repeat (first | refine blk_drewN ?_ _ | refine blk_drew ?_ | refine blk_alloc ?_ _)); exact BK239.out) hb); have n1_ := Aside0.mk (below_step (by repeat (first | (with_reducible first | exact HB.out | apply below_alloc | apply pw_below_drewN | apply below_drew1 | refine below_set ?_ GE239.out) | exact HB.out)) hb); have n2_ := Aside0.mk (hbox); have n3_ := Aside0.mk ((by rw [hg]; exact (below_size (by repeat (first | (with_reducible first | exact HB.out | apply below_alloc | apply pw_below_drewN | apply below_drew1 | refine below_set ?_ GE239.out) | exact HB.out))) : w.heap.size ≤ gb250)); have n4_ := Aside0.mk ((by rw [hg]; exact (below_size (by repeat (first | (with_reducible first | exact HB.out | apply below_alloc | apply pw_below_drewN | apply below_drew1 | refine below_set ?_ GE239.out) | exact HB.out))) : w.heap.size ≤ gb250)); have n5_ := Aside0.mk ((by rw [hg]; exact Nat.ne_of_lt (blk_lt (g := gb239) (o := .cells #[.slice A0_0 l0_0.length c0_0, .slice A0_1 l0_1.length c0_1, .slice (some ad249) l0_2.length c0_2] 36 (0, 0)) (by (with_reducible repeat (first | refine blk_drewN ?_ _ | refine blk_drew ?_ | refine blk_alloc ?_ _)); exact BK239.out)) : gb239 ≠ gb250)); have n6_ := Aside0.mk ((by rw [hg]; exact Nat.ne_of_gt (blk_lt (g := gb239) (o := .cells #[.slice A0_0 l0_0.length c0_0, .slice A0_1 l0_1.length c0_1, .slice (some ad249) l0_2.length c0_2] 36 (0, 0)) (by (with_reducible repeat (first | refine blk_drewN ?_ _ | refine blk_drew ?_ | refine blk_alloc ?_ _)); exact BK239.out)) : gb250 ≠ gb239)); clear BK239; clear HB; have BK239 := n0_; have HB := n1_; have BK250 := n2_; have GW250 := n3_; have GE250 := n4_; have NB239_250 := n5_; have NB250_239 := n6_; clear n0_ n1_ n2_ n3_ n4_ n5_ n6_; clear hb hbox hg; have hnb94 := NB250_239.out; have hnc94 := NB239_250.out; have hcz95_0 : w93.cell? ⟨gb250, 0, none⟩ = some (.int .i64 0) := (blk_cell BK250.out 0).trans rfl; have hcz95_1 : w93.cell? ⟨gb250, 1, none⟩ = some (.int .i64 0) := (blk_cell BK250.out 1).trans rfl; have hfz95_0 := blk_frozen BK250.out 0; have hfz95_1 := blk_frozen BK250.out 1))
                  have n0_ : Aside0 (((w93.setCell ⟨gb250, 0, none⟩ (.int .i64 ((rd_T47 l0_2 x63_3).f0))).setCell ⟨gb250, 1, none⟩ (.int .i64 ((rd_T47 l0_2 x63_3).f1))).heap[gb239]? = some (.cells #[.slice A0_0 l0_0.length c0_0, .slice A0_1 l0_1.length c0_1, .slice (some ad249) l0_2.length c0_2] 36 (0, 0))) := ⟨by (with_reducible repeat (first | refine blk_drewN ?_ _ | refine blk_drew ?_ | refine blk_alloc ?_ _)); refine blk_far ?_ NB239_250.out _; (with_reducible repeat (first | refine blk_drewN ?_ _ | refine blk_drew ?_ | refine blk_alloc ?_ _)); refine blk_far ?_ NB239_250.out _; (with_reducible repeat (first | refine blk_drewN ?_ _ | refine blk_drew ?_ | refine blk_alloc ?_ _)); exact BK239.out⟩
                  have n1_ : Aside0 (((w93.setCell ⟨gb250, 0, none⟩ (.int .i64 ((rd_T47 l0_2 x63_3).f0))).setCell ⟨gb250, 1, none⟩ (.int .i64 ((rd_T47 l0_2 x63_3).f1))).heap[gb250]? = some (.cells #[.int .i64 ((rd_T47 l0_2 x63_3).f0), .int .i64 ((rd_T47 l0_2 x63_3).f1)] 47 (0, 0))) := ⟨by (with_reducible repeat (first | refine blk_drewN ?_ _ | refine blk_drew ?_ | refine blk_alloc ?_ _)); refine blk_put (cs := #[.int .i64 ((rd_T47 l0_2 x63_3).f0), .int .i64 0]) ?_ 1 _ rfl; (with_reducible repeat (first | refine blk_drewN ?_ _ | refine blk_drew ?_ | refine blk_alloc ?_ _)); refine blk_put (cs := #[.int .i64 0, .int .i64 0]) ?_ 0 _ rfl; (with_reducible repeat (first | refine blk_drewN ?_ _ | refine blk_drew ?_ | refine blk_alloc ?_ _)); exact BK250.out⟩
                  have n2_ : Aside0 (Below w.heap.size w ((w93.setCell ⟨gb250, 0, none⟩ (.int .i64 ((rd_T47 l0_2 x63_3).f0))).setCell ⟨gb250, 1, none⟩ (.int .i64 ((rd_T47 l0_2 x63_3).f1)))) := ⟨by repeat (first | (with_reducible first | exact HB.out | apply below_alloc | apply pw_below_drewN | apply below_drew1 | refine below_set ?_ GE239.out | refine below_set ?_ GE250.out) | exact HB.out)⟩
                  (try clear BK239)
                  (try clear BK250)
                  (try clear HB)
                  generalize ((w93.setCell ⟨gb250, 0, none⟩ (.int .i64 ((rd_T47 l0_2 x63_3).f0))).setCell ⟨gb250, 1, none⟩ (.int .i64 ((rd_T47 l0_2 x63_3).f1))) = w96 at n0_ n1_ n2_ ⊢
                  have BK239 := n0_
                  have BK250 := n1_
                  have HB := n2_
                  clear n0_ n1_ n2_
                  have n0_ := Aside0.mk (blk_drew BK239.out)
                  have n1_ := Aside0.mk (blk_drew BK250.out)
                  have n2_ := Aside0.mk (below_drew1 HB.out)
                  clear BK239
                  clear BK250
                  clear HB
                  have BK239 := n0_
                  have BK250 := n1_
                  have HB := n2_
                  clear n0_ n1_ n2_
                  have p252 : 0 ≤ ((ji75) : Int) := of_decide_eq_true (by first | (with_reducible assumption) | assumption)
                  have q252 : (ji75) < (l0_2.length : Int) := of_decide_eq_true (by first | (with_reducible assumption) | assumption)
                  obtain ⟨ad252, e252, hx252_0, hx252_1⟩ := at_T47 HR0_2.out (ji75) p252 q252
                  have hw252_1 := hx252_1
                  have hw252_0 := hx252_0
                  obtain rfl : ad249 = ad252 := (by injection e252)
                  replace hx252_0 := (HB.out.cell (World.block_lt_of_cell? w _ hx252_0)).trans hx252_0
                  replace hx252_1 := (HB.out.cell (World.block_lt_of_cell? w _ hx252_1)).trans hx252_1
                  replace p252 := eq_true p252
                  replace q252 := eq_true q252
                  refine start_ (n := 34) (S := fun w' => w'.cell? ⟨gb250, 0, none⟩ = some (.int .i64 ((rd_T47 l0_2 x63_3).f0)) ∧ w'.cell? ⟨gb250, 1, none⟩ = some (.int .i64 ((rd_T47 l0_2 x63_3).f1)) ∧ w'.cell? ⟨gb239, 0, none⟩ = some (.slice A0_0 l0_0.length c0_0) ∧ w'.cell? ⟨gb239, 1, none⟩ = some (.slice A0_1 l0_1.length c0_1) ∧ w'.cell? ⟨gb239, 2, none⟩ = some (.slice (some ad249) l0_2.length c0_2) ∧ w'.cell? (ad249.add (((ji75)).toNat * 2)) = some (.int .i64 ((rd_T47 l0_2 (ji75)).f0)) ∧ w'.cell? ⟨(ad249.add (((ji75)).toNat * 2)).block, (ad249.add (((ji75)).toNat * 2)).off + 1, none⟩ = some (.int .i64 ((rd_T47 l0_2 (ji75)).f1))) (ds := []) m9_0 (by kernel_rfl) rfl rfl ⟨(blk_cell BK250.out 0).trans rfl, (blk_cell BK250.out 1).trans rfl, (blk_cell BK239.out 0).trans rfl, (blk_cell BK239.out 1).trans rfl, (blk_cell BK239.out 2).trans rfl, ((HB.out.cell (World.block_lt_of_cell? w _ hw252_0)).trans hw252_0), ((HB.out.cell (World.block_lt_of_cell? w _ hw252_1)).trans hw252_1)⟩ (fun hHeld => ?_); refine with_tabW impl_SourceOk.tab16 impl_SourceOk.bits16 (fun HT_ HW_ => ?_)
                  generalize w96.drew = w97 at BK239 BK250 HB hx252_0 hx252_1 hHeld ⊢
                  refine p9_ 0 (some 68) m9_1 (any_of HT_.out (by kernel_rfl)) ?_
                  refine take_ (i := 1) (N := some 69) (v := ?_) (a' := ?_) m9_2 rfl rfl (take_ofW HT_.out HW_.out (by kernel_rfl)) (fun _ _ _ h => h) (Or.inl ⟨by rfl, ?_⟩) hHeld ?_ ?_
                  rotate_left
                  ·rintro w' ⟨s0, s1, s2, s3, s4, s5, s6⟩
                   go_simp
                   with_reducible rfl
                  rotate_left
                  ·simp only [Act.put, List.setIfInBounds_toArray, List.set_cons_zero, List.set_cons_succ, i64_w, i32_w]
                   rfl
                  refine one_ (i := 2) (N := some 70) m9_3 rfl rfl (one_of HT_.out (by kernel_rfl)) (by decide) (fun K hK => ?_)
                  refine goes_ Try.func29 (by kernel_rfl) rfl #[.int .i64 ((rd_T47 l0_2 x63_3).f0)] (by rfl) rfl rfl (by (try simp only [List.map_toArray, List.map_cons, List.map_nil]); first | done | rfl | (simp only [List.length_drop, List.length_take]; rfl)) ?_
                  with_reducible refine (impl_isGreat.calls ((rd_T47 l0_2 x63_3).f0) true _ A72.out).mono ?_
                  rintro e w' ⟨rfl, ⟨nd, rfl⟩⟩
                  refine ⟨_, rfl, ?_⟩
                  refine hK.out _ _ ⟨(blk_cell BK250.out 0).trans rfl, (blk_cell BK250.out 1).trans rfl, (blk_cell BK239.out 0).trans rfl, (blk_cell BK239.out 1).trans rfl, (blk_cell BK239.out 2).trans rfl, ((HB.out.cell (World.block_lt_of_cell? w _ hw252_0)).trans hw252_0), ((HB.out.cell (World.block_lt_of_cell? w _ hw252_1)).trans hw252_1)⟩ (fun hHeld => ?_)
                  clear hK K
                  refine norm_ (a' := ?_) ?_ ?_
                  rotate_left
                  ·show Act.put _ (some 70) _ = _
                   simp only [Act.put, List.setIfInBounds_toArray, List.set_cons_zero, List.set_cons_succ, i64_w, i32_w]
                   rfl
                  refine p9_ 3 (some 71) m9_4 (any_of HT_.out (by kernel_rfl)) ?_
                  refine p9_ 4 (some 72) m9_5 (any_of HT_.out (by kernel_rfl)) ?_
                  refine p9_ 5 (some 73) m9_6 (any_of HT_.out (by kernel_rfl)) ?_
                  refine p9_ 6 (some 74) m9_7 (any_of HT_.out (by kernel_rfl)) ?_
                  refine p9_ 7 (some 75) m9_8 (any_of HT_.out (by kernel_rfl)) ?_
                  refine p9_ 8 (some 76) m9_9 (any_of HT_.out (by kernel_rfl)) ?_
                  refine p9_ 10 (some 78) m9_55 (any_of HT_.out (by kernel_rfl)) ?_
                  refine p9_ 11 (some 79) m9_57 (any_of HT_.out (by kernel_rfl)) ?_
                  refine p9_ 15 (some 83) m9_59 (any_of HT_.out (by kernel_rfl)) ?_
                  refine take_ (i := 9) (N := some 77) (v := ?_) (a' := ?_) m9_61 rfl rfl (take_ofW HT_.out HW_.out (by kernel_rfl)) (fun _ _ _ h => h) (Or.inl ⟨by rfl, ?_⟩) hHeld ?_ ?_
                  rotate_left
                  ·rintro w' ⟨s0, s1, s2, s3, s4, s5, s6⟩
                   go_simp
                   with_reducible rfl
                  rotate_left
                  ·simp only [Act.put, List.setIfInBounds_toArray, List.set_cons_zero, List.set_cons_succ, i64_w, i32_w]
                   rfl
                  refine p9_ 12 (some 80) m9_63 (any_of HT_.out (by kernel_rfl)) ?_
                  refine p9_ 13 (some 81) m9_65 (any_of HT_.out (by kernel_rfl)) ?_
                  refine take_ (i := 14) (N := some 82) (v := ?_) (a' := ?_) m9_10 rfl rfl (take_ofW HT_.out HW_.out (by kernel_rfl)) (fun _ _ _ h => h) (Or.inl ⟨by rfl, ?_⟩) hHeld ?_ ?_
                  rotate_left
                  ·rintro w' ⟨s0, s1, s2, s3, s4, s5, s6⟩
                   go_simp
                   with_reducible rfl
                  rotate_left
                  ·simp only [Act.put, List.setIfInBounds_toArray, List.set_cons_zero, List.set_cons_succ, i64_w, i32_w]
                   rfl
                  refine take_ (i := 16) (N := some 84) (v := ?_) (a' := ?_) m9_11 rfl rfl (take_ofW HT_.out HW_.out (by kernel_rfl)) (fun _ _ _ h => h) (Or.inl ⟨by rfl, ?_⟩) hHeld ?_ ?_
                  rotate_left
                  ·rintro w' ⟨s0, s1, s2, s3, s4, s5, s6⟩
                   go_simp
                   with_reducible rfl
                  rotate_left
                  ·simp only [Act.put, List.setIfInBounds_toArray, List.set_cons_zero, List.set_cons_succ, i64_w, i32_w]
                   rfl
                  refine p9_ 17 (some 85) m9_12 (any_of HT_.out (by kernel_rfl)) ?_
                  refine p9_ 18 (some 86) m9_13 (any_of HT_.out (by kernel_rfl)) ?_
                  refine p9_ 19 (some 87) m9_14 (any_of HT_.out (by kernel_rfl)) ?_
                  refine p9_ 20 (some 88) m9_16 (any_of HT_.out (by kernel_rfl)) ?_
                  refine p9_ 22 (some 90) m9_52 (any_of HT_.out (by kernel_rfl)) ?_
                  refine take_ (i := 21) (N := some 89) (v := ?_) (a' := ?_) m9_19 rfl rfl (take_ofW HT_.out HW_.out (by kernel_rfl)) (fun _ _ _ h => h) (Or.inl ⟨by rfl, ?_⟩) hHeld ?_ ?_
                  rotate_left
                  ·rintro w' ⟨s0, s1, s2, s3, s4, s5, s6⟩
                   go_simp
                   with_reducible rfl
                  rotate_left
                  ·simp only [Act.put, List.setIfInBounds_toArray, List.set_cons_zero, List.set_cons_succ, i64_w, i32_w]
                   rfl
                  refine take_ (i := 23) (N := some 91) (v := ?_) (a' := ?_) m9_21 rfl rfl (take_ofW HT_.out HW_.out (by kernel_rfl)) (fun _ _ _ h => h) (Or.inl ⟨by rfl, ?_⟩) hHeld ?_ ?_
                  rotate_left
                  ·rintro w' ⟨s0, s1, s2, s3, s4, s5, s6⟩
                   go_simp
                   with_reducible rfl
                  rotate_left
                  ·simp only [Act.put, List.setIfInBounds_toArray, List.set_cons_zero, List.set_cons_succ, i64_w, i32_w]
                   rfl
                  refine one_ (i := 24) (N := some 92) m9_23 rfl rfl (one_of HT_.out (by kernel_rfl)) (by decide) (fun K hK => ?_)
                  refine goes_ Try.func19 (by kernel_rfl) rfl #[.agg #[.slice A0_0 l0_0.length c0_0, .slice A0_1 l0_1.length c0_1, .slice (some ad249) l0_2.length c0_2], .int .i64 ((rd_T47 l0_2 x63_3).f1)] (by rfl) rfl rfl (by (try simp only [List.map_toArray, List.map_cons, List.map_nil]); first | done | rfl | (simp only [List.length_drop, List.length_take]; rfl)) ?_
                  with_reducible refine (impl_zoneAt.calls _ _ l0_0 _ _ l0_1 _ _ l0_2 ((rd_T47 l0_2 x63_3).f1) t253 _ ?side1 ?side2 ?side3 ?side4 ?side5 ?side6 A84.out).mono ?_
                  (case side1 => repeat (first | exact (Kd.C_below HR0_0.out (by repeat (first | (with_reducible first | exact HB.out | apply below_alloc | apply pw_below_drewN | apply below_drew1 | refine below_set ?_ GE239.out | refine below_set ?_ GE250.out) | exact HB.out))) | (with_reducible refine Kd.C_alloc ?_ _) | (with_reducible refine Kd.C_drewN ?_ _) | (with_reducible refine Kd.C_drew ?_)))
                  (case side2 => exact HC0_0.out)
                  (case side3 => repeat (first | exact (Kd.C_below HR0_1.out (by repeat (first | (with_reducible first | exact HB.out | apply below_alloc | apply pw_below_drewN | apply below_drew1 | refine below_set ?_ GE239.out | refine below_set ?_ GE250.out) | exact HB.out))) | (with_reducible refine Kd.C_alloc ?_ _) | (with_reducible refine Kd.C_drewN ?_ _) | (with_reducible refine Kd.C_drew ?_)))
                  (case side4 => exact HC0_1.out)
                  (case side5 => repeat (first | exact (Kd.C_below HR0_2.out (by repeat (first | (with_reducible first | exact HB.out | apply below_alloc | apply pw_below_drewN | apply below_drew1 | refine below_set ?_ GE239.out | refine below_set ?_ GE250.out) | exact HB.out))) | (with_reducible refine Kd.C_alloc ?_ _) | (with_reducible refine Kd.C_drewN ?_ _) | (with_reducible refine Kd.C_drew ?_)))
                  (case side6 => exact HC0_2.out)
                  rintro e w98 ⟨rfl, hb⟩
                  refine ⟨_, rfl, ?_⟩
                  have n0_ := Aside0.mk (blk_below (g := gb239) (o := .cells #[.slice A0_0 l0_0.length c0_0, .slice A0_1 l0_1.length c0_1, .slice (some ad249) l0_2.length c0_2] 36 (0, 0)) (by (with_reducible repeat (first | refine blk_drewN ?_ _ | refine blk_drew ?_ | refine blk_alloc ?_ _)); exact BK239.out) hb)
                  have n1_ := Aside0.mk (blk_below (g := gb250) (o := .cells #[.int .i64 ((rd_T47 l0_2 x63_3).f0), .int .i64 ((rd_T47 l0_2 x63_3).f1)] 47 (0, 0)) (by (with_reducible repeat (first | refine blk_drewN ?_ _ | refine blk_drew ?_ | refine blk_alloc ?_ _)); exact BK250.out) hb)
                  have n2_ := Aside0.mk (below_step (by repeat (first | (with_reducible first | exact HB.out | apply below_alloc | apply pw_below_drewN | apply below_drew1 | refine below_set ?_ GE239.out | refine below_set ?_ GE250.out) | exact HB.out)) hb)
                  clear BK239
                  clear BK250
                  clear HB
                  have BK239 := n0_
                  have BK250 := n1_
                  have HB := n2_
                  clear n0_ n1_ n2_
                  (try clear hb)
                  (try clear hb2)
                  (try clear hk)
                  (try clear hi)
                  refine hK.out _ _ ⟨(blk_cell BK250.out 0).trans rfl, (blk_cell BK250.out 1).trans rfl, (blk_cell BK239.out 0).trans rfl, (blk_cell BK239.out 1).trans rfl, (blk_cell BK239.out 2).trans rfl, ((HB.out.cell (World.block_lt_of_cell? w _ hw252_0)).trans hw252_0), ((HB.out.cell (World.block_lt_of_cell? w _ hw252_1)).trans hw252_1)⟩ (fun hHeld => ?_)
                  clear hK K
                  refine norm_ (a' := ?_) ?_ ?_
                  rotate_left
                  ·show Act.put _ (some 92) _ = _
                   simp only [Act.put, List.setIfInBounds_toArray, List.set_cons_zero, List.set_cons_succ, i64_w, i32_w]
                   rfl
                  refine p9_ 25 (some 93) m9_25 (any_of HT_.out (by kernel_rfl)) ?_
                  refine p9_ 26 (some 94) m9_27 (any_of HT_.out (by kernel_rfl)) ?_
                  refine p9_ 27 (some 95) m9_29 (any_of HT_.out (by kernel_rfl)) ?_
                  refine p9_ 29 (some 97) m9_80 (any_of HT_.out (by kernel_rfl)) ?_
                  refine take_ (i := 28) (N := some 96) (v := ?_) (a' := ?_) m9_31 rfl rfl (take_ofW HT_.out HW_.out (by kernel_rfl)) (fun _ _ _ h => h) (Or.inl ⟨by rfl, ?_⟩) hHeld ?_ ?_
                  rotate_left
                  ·rintro w' ⟨s0, s1, s2, s3, s4, s5, s6⟩
                   go_simp
                   with_reducible rfl
                  rotate_left
                  ·simp only [Act.put, List.setIfInBounds_toArray, List.set_cons_zero, List.set_cons_succ, i64_w, i32_w]
                   rfl
                  refine take_ (i := 30) (N := some 98) (v := ?_) (a' := ?_) m9_32 rfl rfl (take_ofW HT_.out HW_.out (by kernel_rfl)) (fun _ _ _ h => h) (Or.inl ⟨by rfl, ?_⟩) hHeld ?_ ?_
                  rotate_left
                  ·rintro w' ⟨s0, s1, s2, s3, s4, s5, s6⟩
                   go_simp
                   with_reducible rfl
                  rotate_left
                  ·simp only [Act.put, List.setIfInBounds_toArray, List.set_cons_zero, List.set_cons_succ, i64_w, i32_w]
                   rfl
                  refine one_ (i := 31) (N := some 99) m9_33 rfl rfl (one_of HT_.out (by kernel_rfl)) (by decide) (fun K hK => ?_)
                  refine goes_ Try.func19 (by kernel_rfl) rfl #[.agg #[.slice A0_0 l0_0.length c0_0, .slice A0_1 l0_1.length c0_1, .slice (some ad249) l0_2.length c0_2], .int .i64 ((rd_T47 l0_2 x63_3).f0)] (by rfl) rfl rfl (by (try simp only [List.map_toArray, List.map_cons, List.map_nil]); first | done | rfl | (simp only [List.length_drop, List.length_take]; rfl)) ?_
                  with_reducible refine (impl_zoneAt.calls _ _ l0_0 _ _ l0_1 _ _ l0_2 ((rd_T47 l0_2 x63_3).f0) t254 _ ?side1 ?side2 ?side3 ?side4 ?side5 ?side6 A92.out).mono ?_
                  (case side1 => repeat (first | exact (Kd.C_below HR0_0.out HB.out) | (with_reducible refine Kd.C_alloc ?_ _) | (with_reducible refine Kd.C_drewN ?_ _) | (with_reducible refine Kd.C_drew ?_)))
                  (case side2 => exact HC0_0.out)
                  (case side3 => repeat (first | exact (Kd.C_below HR0_1.out HB.out) | (with_reducible refine Kd.C_alloc ?_ _) | (with_reducible refine Kd.C_drewN ?_ _) | (with_reducible refine Kd.C_drew ?_)))
                  (case side4 => exact HC0_1.out)
                  (case side5 => repeat (first | exact (Kd.C_below HR0_2.out HB.out) | (with_reducible refine Kd.C_alloc ?_ _) | (with_reducible refine Kd.C_drewN ?_ _) | (with_reducible refine Kd.C_drew ?_)))
                  (case side6 => exact HC0_2.out)
                  rintro e w99 ⟨rfl, hb⟩
                  refine ⟨_, rfl, ?_⟩
                  have n0_ := Aside0.mk (blk_below (g := gb239) (o := .cells #[.slice A0_0 l0_0.length c0_0, .slice A0_1 l0_1.length c0_1, .slice (some ad249) l0_2.length c0_2] 36 (0, 0)) (by (with_reducible repeat (first | refine blk_drewN ?_ _ | refine blk_drew ?_ | refine blk_alloc ?_ _)); exact BK239.out) hb)
                  have n1_ := Aside0.mk (blk_below (g := gb250) (o := .cells #[.int .i64 ((rd_T47 l0_2 x63_3).f0), .int .i64 ((rd_T47 l0_2 x63_3).f1)] 47 (0, 0)) (by (with_reducible repeat (first | refine blk_drewN ?_ _ | refine blk_drew ?_ | refine blk_alloc ?_ _)); exact BK250.out) hb)
                  have n2_ := Aside0.mk (below_step (by repeat (first | (with_reducible first | exact HB.out | apply below_alloc | apply pw_below_drewN | apply below_drew1 | refine below_set ?_ GE239.out | refine below_set ?_ GE250.out) | exact HB.out)) hb)
                  clear BK239
                  clear BK250
                  clear HB
                  have BK239 := n0_
                  have BK250 := n1_
                  have HB := n2_
                  clear n0_ n1_ n2_
                  (try clear hb)
                  (try clear hb2)
                  (try clear hk)
                  (try clear hi)
                  refine hK.out _ _ ⟨(blk_cell BK250.out 0).trans rfl, (blk_cell BK250.out 1).trans rfl, (blk_cell BK239.out 0).trans rfl, (blk_cell BK239.out 1).trans rfl, (blk_cell BK239.out 2).trans rfl, ((HB.out.cell (World.block_lt_of_cell? w _ hw252_0)).trans hw252_0), ((HB.out.cell (World.block_lt_of_cell? w _ hw252_1)).trans hw252_1)⟩ (fun hHeld => ?_)
                  clear hK K
                  refine norm_ (a' := ?_) ?_ ?_
                  rotate_left
                  ·show Act.put _ (some 99) _ = _
                   simp only [Act.put, List.setIfInBounds_toArray, List.set_cons_zero, List.set_cons_succ, i64_w, i32_w]
                   rfl
                  refine p9_ 32 (some 100) m9_34 (any_of HT_.out (by kernel_rfl)) ?_
                  refine p9_ 33 (some 101) m9_35 (any_of HT_.out (by kernel_rfl)) ?_
                  refine done_ (done_of HT_.out (by kernel_rfl)) ?_
                  go_upto_if 101 with (fail)
                  by_cases c100 : t254 ≥ 0
                  ·rw [if_pos c100] at H
                   have c100b0 : decide (0 ≤ t254) = true := decide_eq_true c100
                   clear c100
                   (first | rw [c100b0] | (simp only [i64_w, i32_w]; rw [c100b0]) | skip)
                   obtain rfl := Option.some.inj H
                   go_wp2
                   go_ret
                   exact ⟨by first | rfl | (simp [errW_none, errW_some] <;> rfl) | (simp only [← hji75]; first | rfl | (simp [errW_none, errW_some] <;> rfl)) | (simp [*, errW_none, errW_some] <;> rfl), by repeat (first | (with_reducible first | exact HB.out | apply below_alloc | apply pw_below_drewN | apply below_drew1 | refine below_set ?_ GE239.out | refine below_set ?_ GE250.out) | exact HB.out)⟩
                  ·rw [if_neg c100] at H
                   have c100b0 : decide (0 ≤ t254) = false := decide_eq_false c100
                   clear c100
                   (first | rw [c100b0] | (simp only [i64_w, i32_w]; rw [c100b0]) | skip)
                   have H' := Aside0.mk H
                   clear H
                   go_wp2
                   go_roundg k3
                   case measure => have := HK1.out; have := HK2.out; have := HK3.out; omega
                   case rel => exact ⟨(wrap64 (x63_3 + 1)), (by first | rfl | (simp; done) | (simp [*]; done)), H', ⟨by have := HK1.out; have := HK2.out; have := HK3.out; omega⟩, ⟨by (with_reducible repeat (first | refine blk_drewN ?_ _ | refine blk_drew ?_ | refine blk_alloc ?_ _)); exact BK239.out⟩, ⟨by repeat (first | (with_reducible first | exact HB.out | apply below_alloc | apply pw_below_drewN | apply below_drew1 | refine below_set ?_ GE239.out | refine below_set ?_ GE250.out) | exact HB.out)⟩⟩
               ·rw [if_neg c77] at H
                exact absurd H (by simp)
              ·rw [if_neg c76] at H
               exact absurd H (by simp)
             ·rw [if_neg c74] at H
              have c74b0 : decide (0 < x63_3) = false := decide_eq_false c74
              clear c74
              replace H := Option.bind_eq_some_iff.mp H
              obtain ⟨t255, A1010, H⟩ := H
              replace H : (if t255 < 0 then (some false) else ((impl_zoneAt.f l0_0 l0_1 l0_2 ((rd_T47 l0_2 x63_3).f0)).bind fun t256 => (if t256 ≥ 0 then (some false) else (impl_SourceOk.l2 k3 l0_2 (l0_2.length : Int) (wrap64 (x63_3 + 1)) l0_0 l0_1 l0_2)))) = some r := H
              have A101 := Aside0.mk A1010
              clear A1010
              by_cases c102 : t255 < 0
              ·rw [if_pos c102] at H
               have c102b0 : decide (t255 < 0) = true := decide_eq_true c102
               clear c102
               obtain rfl := Option.some.inj H
               have p249 : 0 ≤ (x63_3 : Int) := of_decide_eq_true (by first | (with_reducible assumption) | assumption)
               have q249 : x63_3 < (l0_2.length : Int) := of_decide_eq_true (by first | (with_reducible assumption) | assumption)
               obtain ⟨ad249, e249, hx249_0, hx249_1⟩ := at_T47 HR0_2.out x63_3 p249 q249
               cases e249
               replace hx249_0 := (HB.out.cell (World.block_lt_of_cell? w _ hx249_0)).trans hx249_0
               replace hx249_1 := (HB.out.cell (World.block_lt_of_cell? w _ hx249_1)).trans hx249_1
               replace p249 := eq_true p249
               replace q249 := eq_true q249
               try go_wp2_with (first | ((with_reducible refine gate_dst (N := 8) rfl ?_); refine box_event ?hg (N := 8) ?hd (cs := #[.int .i64 0, .int .i64 0]) (t := 47) ?hr ?_; (case hd => rfl); (case hg => rfl); (case hr => first | (go_simp; done) | (go_simp; rfl)); intro gb250 hg w103 hbox hb; have n0_ := Aside0.mk (blk_below (g := gb239) (o := .cells #[.slice A0_0 l0_0.length c0_0, .slice A0_1 l0_1.length c0_1, .slice (some ad249) l0_2.length c0_2] 36 (0, 0)) (by (with_reducible repeat (first | refine blk_drewN ?_ _ | refine blk_drew ?_ | refine blk_alloc ?_ _)); exact BK239.out) hb); have n1_ := Aside0.mk (below_step (by repeat (first | (with_reducible first | exact HB.out | apply below_alloc | apply pw_below_drewN | apply below_drew1 | refine below_set ?_ GE239.out) | exact HB.out)) hb); have n2_ := Aside0.mk (hbox); have n3_ := Aside0.mk ((by rw [hg]; exact (below_size (by repeat (first | (with_reducible first | exact HB.out | apply below_alloc | apply pw_below_drewN | apply below_drew1 | refine below_set ?_ GE239.out) | exact HB.out))) : w.heap.size ≤ gb250)); have n4_ := Aside0.mk ((by rw [hg]; exact (below_size (by repeat (first | (with_reducible first | exact HB.out | apply below_alloc | apply pw_below_drewN | apply below_drew1 | refine below_set ?_ GE239.out) | exact HB.out))) : w.heap.size ≤ gb250)); have n5_ := Aside0.mk ((by rw [hg]; exact Nat.ne_of_lt (blk_lt (g := gb239) (o := .cells #[.slice A0_0 l0_0.length c0_0, .slice A0_1 l0_1.length c0_1, .slice (some ad249) l0_2.length c0_2] 36 (0, 0)) (by (with_reducible repeat (first | refine blk_drewN ?_ _ | refine blk_drew ?_ | refine blk_alloc ?_ _)); exact BK239.out)) : gb239 ≠ gb250)); have n6_ := Aside0.mk ((by rw [hg]; exact Nat.ne_of_gt (blk_lt (g := gb239) (o := .cells #[.slice A0_0 l0_0.length c0_0, .slice A0_1 l0_1.length c0_1, .slice (some ad249) l0_2.length c0_2] 36 (0, 0)) (by (with_reducible repeat (first | refine blk_drewN ?_ _ | refine blk_drew ?_ | refine blk_alloc ?_ _)); exact BK239.out)) : gb250 ≠ gb239)); clear BK239; clear HB; have BK239 := n0_; have HB := n1_; have BK250 := n2_; have GW250 := n3_; have GE250 := n4_; have NB239_250 := n5_; have NB250_239 := n6_; clear n0_ n1_ n2_ n3_ n4_ n5_ n6_; clear hb hbox hg; have hnb104 := NB250_239.out; have hnc104 := NB239_250.out; have hcz105_0 : w103.cell? ⟨gb250, 0, none⟩ = some (.int .i64 0) := (blk_cell BK250.out 0).trans rfl; have hcz105_1 : w103.cell? ⟨gb250, 1, none⟩ = some (.int .i64 0) := (blk_cell BK250.out 1).trans rfl; have hfz105_0 := blk_frozen BK250.out 0; have hfz105_1 := blk_frozen BK250.out 1))
               have n0_ : Aside0 (((w103.setCell ⟨gb250, 0, none⟩ (.int .i64 ((rd_T47 l0_2 x63_3).f0))).setCell ⟨gb250, 1, none⟩ (.int .i64 ((rd_T47 l0_2 x63_3).f1))).heap[gb239]? = some (.cells #[.slice A0_0 l0_0.length c0_0, .slice A0_1 l0_1.length c0_1, .slice (some ad249) l0_2.length c0_2] 36 (0, 0))) := ⟨by (with_reducible repeat (first | refine blk_drewN ?_ _ | refine blk_drew ?_ | refine blk_alloc ?_ _)); refine blk_far ?_ NB239_250.out _; (with_reducible repeat (first | refine blk_drewN ?_ _ | refine blk_drew ?_ | refine blk_alloc ?_ _)); refine blk_far ?_ NB239_250.out _; (with_reducible repeat (first | refine blk_drewN ?_ _ | refine blk_drew ?_ | refine blk_alloc ?_ _)); exact BK239.out⟩
               have n1_ : Aside0 (((w103.setCell ⟨gb250, 0, none⟩ (.int .i64 ((rd_T47 l0_2 x63_3).f0))).setCell ⟨gb250, 1, none⟩ (.int .i64 ((rd_T47 l0_2 x63_3).f1))).heap[gb250]? = some (.cells #[.int .i64 ((rd_T47 l0_2 x63_3).f0), .int .i64 ((rd_T47 l0_2 x63_3).f1)] 47 (0, 0))) := ⟨by (with_reducible repeat (first | refine blk_drewN ?_ _ | refine blk_drew ?_ | refine blk_alloc ?_ _)); refine blk_put (cs := #[.int .i64 ((rd_T47 l0_2 x63_3).f0), .int .i64 0]) ?_ 1 _ rfl; (with_reducible repeat (first | refine blk_drewN ?_ _ | refine blk_drew ?_ | refine blk_alloc ?_ _)); refine blk_put (cs := #[.int .i64 0, .int .i64 0]) ?_ 0 _ rfl; (with_reducible repeat (first | refine blk_drewN ?_ _ | refine blk_drew ?_ | refine blk_alloc ?_ _)); exact BK250.out⟩
               have n2_ : Aside0 (Below w.heap.size w ((w103.setCell ⟨gb250, 0, none⟩ (.int .i64 ((rd_T47 l0_2 x63_3).f0))).setCell ⟨gb250, 1, none⟩ (.int .i64 ((rd_T47 l0_2 x63_3).f1)))) := ⟨by repeat (first | (with_reducible first | exact HB.out | apply below_alloc | apply pw_below_drewN | apply below_drew1 | refine below_set ?_ GE239.out | refine below_set ?_ GE250.out) | exact HB.out)⟩
               (try clear BK239)
               (try clear BK250)
               (try clear HB)
               generalize ((w103.setCell ⟨gb250, 0, none⟩ (.int .i64 ((rd_T47 l0_2 x63_3).f0))).setCell ⟨gb250, 1, none⟩ (.int .i64 ((rd_T47 l0_2 x63_3).f1))) = w106 at n0_ n1_ n2_ ⊢
               have BK239 := n0_
               have BK250 := n1_
               have HB := n2_
               clear n0_ n1_ n2_
               have n0_ := Aside0.mk (blk_drew BK239.out)
               have n1_ := Aside0.mk (blk_drew BK250.out)
               have n2_ := Aside0.mk (below_drew1 HB.out)
               clear BK239
               clear BK250
               clear HB
               have BK239 := n0_
               have BK250 := n1_
               have HB := n2_
               clear n0_ n1_ n2_
               refine start_ (n := 34) (S := fun w' => w'.cell? ⟨gb250, 0, none⟩ = some (.int .i64 ((rd_T47 l0_2 x63_3).f0)) ∧ w'.cell? ⟨gb250, 1, none⟩ = some (.int .i64 ((rd_T47 l0_2 x63_3).f1)) ∧ w'.cell? ⟨gb239, 0, none⟩ = some (.slice A0_0 l0_0.length c0_0) ∧ w'.cell? ⟨gb239, 1, none⟩ = some (.slice A0_1 l0_1.length c0_1) ∧ w'.cell? ⟨gb239, 2, none⟩ = some (.slice (some ad249) l0_2.length c0_2)) (ds := []) m9_0 (by kernel_rfl) rfl rfl ⟨(blk_cell BK250.out 0).trans rfl, (blk_cell BK250.out 1).trans rfl, (blk_cell BK239.out 0).trans rfl, (blk_cell BK239.out 1).trans rfl, (blk_cell BK239.out 2).trans rfl⟩ (fun hHeld => ?_); refine with_tabW impl_SourceOk.tab16 impl_SourceOk.bits16 (fun HT_ HW_ => ?_)
               generalize w106.drew = w107 at BK239 BK250 HB hHeld ⊢
               refine p9_ 0 (some 68) m9_1 (any_of HT_.out (by kernel_rfl)) ?_
               refine take_ (i := 1) (N := some 69) (v := ?_) (a' := ?_) m9_2 rfl rfl (take_ofW HT_.out HW_.out (by kernel_rfl)) (fun _ _ _ h => h) (Or.inl ⟨by rfl, ?_⟩) hHeld ?_ ?_
               rotate_left
               ·rintro w' ⟨s0, s1, s2, s3, s4⟩
                go_simp
                with_reducible rfl
               rotate_left
               ·simp only [Act.put, List.setIfInBounds_toArray, List.set_cons_zero, List.set_cons_succ, i64_w, i32_w]
                rfl
               refine one_ (i := 2) (N := some 70) m9_3 rfl rfl (one_of HT_.out (by kernel_rfl)) (by decide) (fun K hK => ?_)
               refine goes_ Try.func29 (by kernel_rfl) rfl #[.int .i64 ((rd_T47 l0_2 x63_3).f0)] (by rfl) rfl rfl (by (try simp only [List.map_toArray, List.map_cons, List.map_nil]); first | done | rfl | (simp only [List.length_drop, List.length_take]; rfl)) ?_
               with_reducible refine (impl_isGreat.calls ((rd_T47 l0_2 x63_3).f0) true _ A72.out).mono ?_
               rintro e w' ⟨rfl, ⟨nd, rfl⟩⟩
               refine ⟨_, rfl, ?_⟩
               refine hK.out _ _ ⟨(blk_cell BK250.out 0).trans rfl, (blk_cell BK250.out 1).trans rfl, (blk_cell BK239.out 0).trans rfl, (blk_cell BK239.out 1).trans rfl, (blk_cell BK239.out 2).trans rfl⟩ (fun hHeld => ?_)
               clear hK K
               refine norm_ (a' := ?_) ?_ ?_
               rotate_left
               ·show Act.put _ (some 70) _ = _
                simp only [Act.put, List.setIfInBounds_toArray, List.set_cons_zero, List.set_cons_succ, i64_w, i32_w]
                rfl
               refine p9_ 3 (some 71) m9_4 (any_of HT_.out (by kernel_rfl)) ?_
               refine p9_ 4 (some 72) m9_5 (any_of HT_.out (by kernel_rfl)) ?_
               refine p9_ 5 (some 73) m9_6 (any_of HT_.out (by kernel_rfl)) ?_
               refine p9_ 6 (some 74) m9_7 (any_of HT_.out (by kernel_rfl)) ?_
               refine p9_ 7 (some 75) m9_8 (any_of HT_.out (by kernel_rfl)) ?_
               refine u9_ 8 (some 76) m9_9 (any_of HT_.out (by kernel_rfl)) ?_
               refine u9_ 9 (some 77) m9_56 (any_of HT_.out (by kernel_rfl)) ?_
               refine u9_ 10 (some 78) m9_58 (any_of HT_.out (by kernel_rfl)) ?_
               refine u9_ 11 (some 79) m9_60 (any_of HT_.out (by kernel_rfl)) ?_
               refine u9_ 12 (some 80) m9_62 (any_of HT_.out (by kernel_rfl)) ?_
               refine u9_ 13 (some 81) m9_64 (any_of HT_.out (by kernel_rfl)) ?_
               refine u9_ 14 (some 82) m9_66 (any_of HT_.out (by kernel_rfl)) ?_
               refine u9_ 15 (some 83) m9_10 (any_of HT_.out (by kernel_rfl)) ?_
               refine u9_ 16 (some 84) m9_11 (any_of HT_.out (by kernel_rfl)) ?_
               refine u9_ 17 (some 85) m9_12 (any_of HT_.out (by kernel_rfl)) ?_
               refine p9_ 18 (some 86) m9_13 (any_of HT_.out (by kernel_rfl)) ?_
               refine p9_ 19 (some 87) m9_14 (any_of HT_.out (by kernel_rfl)) ?_
               refine p9_ 20 (some 88) m9_16 (any_of HT_.out (by kernel_rfl)) ?_
               refine p9_ 22 (some 90) m9_52 (any_of HT_.out (by kernel_rfl)) ?_
               refine take_ (i := 21) (N := some 89) (v := ?_) (a' := ?_) m9_19 rfl rfl (take_ofW HT_.out HW_.out (by kernel_rfl)) (fun _ _ _ h => h) (Or.inl ⟨by rfl, ?_⟩) hHeld ?_ ?_
               rotate_left
               ·rintro w' ⟨s0, s1, s2, s3, s4⟩
                go_simp
                with_reducible rfl
               rotate_left
               ·simp only [Act.put, List.setIfInBounds_toArray, List.set_cons_zero, List.set_cons_succ, i64_w, i32_w]
                rfl
               refine take_ (i := 23) (N := some 91) (v := ?_) (a' := ?_) m9_21 rfl rfl (take_ofW HT_.out HW_.out (by kernel_rfl)) (fun _ _ _ h => h) (Or.inl ⟨by rfl, ?_⟩) hHeld ?_ ?_
               rotate_left
               ·rintro w' ⟨s0, s1, s2, s3, s4⟩
                go_simp
                with_reducible rfl
               rotate_left
               ·simp only [Act.put, List.setIfInBounds_toArray, List.set_cons_zero, List.set_cons_succ, i64_w, i32_w]
                rfl
               refine one_ (i := 24) (N := some 92) m9_23 rfl rfl (one_of HT_.out (by kernel_rfl)) (by decide) (fun K hK => ?_)
               refine goes_ Try.func19 (by kernel_rfl) rfl #[.agg #[.slice A0_0 l0_0.length c0_0, .slice A0_1 l0_1.length c0_1, .slice (some ad249) l0_2.length c0_2], .int .i64 ((rd_T47 l0_2 x63_3).f1)] (by rfl) rfl rfl (by (try simp only [List.map_toArray, List.map_cons, List.map_nil]); first | done | rfl | (simp only [List.length_drop, List.length_take]; rfl)) ?_
               with_reducible refine (impl_zoneAt.calls _ _ l0_0 _ _ l0_1 _ _ l0_2 ((rd_T47 l0_2 x63_3).f1) t255 _ ?side1 ?side2 ?side3 ?side4 ?side5 ?side6 A101.out).mono ?_
               (case side1 => repeat (first | exact (Kd.C_below HR0_0.out (by repeat (first | (with_reducible first | exact HB.out | apply below_alloc | apply pw_below_drewN | apply below_drew1 | refine below_set ?_ GE239.out | refine below_set ?_ GE250.out) | exact HB.out))) | (with_reducible refine Kd.C_alloc ?_ _) | (with_reducible refine Kd.C_drewN ?_ _) | (with_reducible refine Kd.C_drew ?_)))
               (case side2 => exact HC0_0.out)
               (case side3 => repeat (first | exact (Kd.C_below HR0_1.out (by repeat (first | (with_reducible first | exact HB.out | apply below_alloc | apply pw_below_drewN | apply below_drew1 | refine below_set ?_ GE239.out | refine below_set ?_ GE250.out) | exact HB.out))) | (with_reducible refine Kd.C_alloc ?_ _) | (with_reducible refine Kd.C_drewN ?_ _) | (with_reducible refine Kd.C_drew ?_)))
               (case side4 => exact HC0_1.out)
               (case side5 => repeat (first | exact (Kd.C_below HR0_2.out (by repeat (first | (with_reducible first | exact HB.out | apply below_alloc | apply pw_below_drewN | apply below_drew1 | refine below_set ?_ GE239.out | refine below_set ?_ GE250.out) | exact HB.out))) | (with_reducible refine Kd.C_alloc ?_ _) | (with_reducible refine Kd.C_drewN ?_ _) | (with_reducible refine Kd.C_drew ?_)))
               (case side6 => exact HC0_2.out)
               rintro e w108 ⟨rfl, hb⟩
               refine ⟨_, rfl, ?_⟩
               have n0_ := Aside0.mk (blk_below (g := gb239) (o := .cells #[.slice A0_0 l0_0.length c0_0, .slice A0_1 l0_1.length c0_1, .slice (some ad249) l0_2.length c0_2] 36 (0, 0)) (by (with_reducible repeat (first | refine blk_drewN ?_ _ | refine blk_drew ?_ | refine blk_alloc ?_ _)); exact BK239.out) hb)
               have n1_ := Aside0.mk (blk_below (g := gb250) (o := .cells #[.int .i64 ((rd_T47 l0_2 x63_3).f0), .int .i64 ((rd_T47 l0_2 x63_3).f1)] 47 (0, 0)) (by (with_reducible repeat (first | refine blk_drewN ?_ _ | refine blk_drew ?_ | refine blk_alloc ?_ _)); exact BK250.out) hb)
               have n2_ := Aside0.mk (below_step (by repeat (first | (with_reducible first | exact HB.out | apply below_alloc | apply pw_below_drewN | apply below_drew1 | refine below_set ?_ GE239.out | refine below_set ?_ GE250.out) | exact HB.out)) hb)
               clear BK239
               clear BK250
               clear HB
               have BK239 := n0_
               have BK250 := n1_
               have HB := n2_
               clear n0_ n1_ n2_
               (try clear hb)
               (try clear hb2)
               (try clear hk)
               (try clear hi)
               refine hK.out _ _ ⟨(blk_cell BK250.out 0).trans rfl, (blk_cell BK250.out 1).trans rfl, (blk_cell BK239.out 0).trans rfl, (blk_cell BK239.out 1).trans rfl, (blk_cell BK239.out 2).trans rfl⟩ (fun hHeld => ?_)
               clear hK K
               refine norm_ (a' := ?_) ?_ ?_
               rotate_left
               ·show Act.put _ (some 92) _ = _
                simp only [Act.put, List.setIfInBounds_toArray, List.set_cons_zero, List.set_cons_succ, i64_w, i32_w]
                rfl
               refine p9_ 25 (some 93) m9_25 (any_of HT_.out (by kernel_rfl)) ?_
               refine p9_ 26 (some 94) m9_27 (any_of HT_.out (by kernel_rfl)) ?_
               refine p9_ 27 (some 95) m9_29 (any_of HT_.out (by kernel_rfl)) ?_
               refine u9_ 28 (some 96) m9_53 (any_of HT_.out (by kernel_rfl)) ?_
               refine u9_ 29 (some 97) m9_31 (any_of HT_.out (by kernel_rfl)) ?_
               refine u9_ 30 (some 98) m9_32 (any_of HT_.out (by kernel_rfl)) ?_
               refine u9_ 31 (some 99) m9_33 (any_of HT_.out (by kernel_rfl)) ?_
               refine u9_ 32 (some 100) m9_34 (any_of HT_.out (by kernel_rfl)) ?_
               refine p9_ 33 (some 101) m9_35 (any_of HT_.out (by kernel_rfl)) ?_
               refine done_ (done_of HT_.out (by kernel_rfl)) ?_
               try go_wp2
               go_ret
               exact ⟨by first | rfl | (simp [errW_none, errW_some] <;> rfl) | (simp [*, errW_none, errW_some] <;> rfl), by repeat (first | (with_reducible first | exact HB.out | apply below_alloc | apply pw_below_drewN | apply below_drew1 | refine below_set ?_ GE239.out | refine below_set ?_ GE250.out) | exact HB.out)⟩
              ·rw [if_neg c102] at H
               have c102b0 : decide (t255 < 0) = false := decide_eq_false c102
               clear c102
               replace H := Option.bind_eq_some_iff.mp H
               obtain ⟨t256, A1090, H⟩ := H
               replace H : (if t256 ≥ 0 then (some false) else (impl_SourceOk.l2 k3 l0_2 (l0_2.length : Int) (wrap64 (x63_3 + 1)) l0_0 l0_1 l0_2)) = some r := H
               have A109 := Aside0.mk A1090
               clear A1090
               have p249 : 0 ≤ (x63_3 : Int) := of_decide_eq_true (by first | (with_reducible assumption) | assumption)
               have q249 : x63_3 < (l0_2.length : Int) := of_decide_eq_true (by first | (with_reducible assumption) | assumption)
               obtain ⟨ad249, e249, hx249_0, hx249_1⟩ := at_T47 HR0_2.out x63_3 p249 q249
               cases e249
               replace hx249_0 := (HB.out.cell (World.block_lt_of_cell? w _ hx249_0)).trans hx249_0
               replace hx249_1 := (HB.out.cell (World.block_lt_of_cell? w _ hx249_1)).trans hx249_1
               replace p249 := eq_true p249
               replace q249 := eq_true q249
               try go_wp2_with (first | ((with_reducible refine gate_dst (N := 8) rfl ?_); refine box_event ?hg (N := 8) ?hd (cs := #[.int .i64 0, .int .i64 0]) (t := 47) ?hr ?_; (case hd => rfl); (case hg => rfl); (case hr => first | (go_simp; done) | (go_simp; rfl)); intro gb250 hg w110 hbox hb; have n0_ := Aside0.mk (blk_below (g := gb239) (o := .cells #[.slice A0_0 l0_0.length c0_0, .slice A0_1 l0_1.length c0_1, .slice (some ad249) l0_2.length c0_2] 36 (0, 0)) (by (with_reducible repeat (first | refine blk_drewN ?_ _ | refine blk_drew ?_ | refine blk_alloc ?_ _)); exact BK239.out) hb); have n1_ := Aside0.mk (below_step (by repeat (first | (with_reducible first | exact HB.out | apply below_alloc | apply pw_below_drewN | apply below_drew1 | refine below_set ?_ GE239.out) | exact HB.out)) hb); have n2_ := Aside0.mk (hbox); have n3_ := Aside0.mk ((by rw [hg]; exact (below_size (by repeat (first | (with_reducible first | exact HB.out | apply below_alloc | apply pw_below_drewN | apply below_drew1 | refine below_set ?_ GE239.out) | exact HB.out))) : w.heap.size ≤ gb250)); have n4_ := Aside0.mk ((by rw [hg]; exact (below_size (by repeat (first | (with_reducible first | exact HB.out | apply below_alloc | apply pw_below_drewN | apply below_drew1 | refine below_set ?_ GE239.out) | exact HB.out))) : w.heap.size ≤ gb250)); have n5_ := Aside0.mk ((by rw [hg]; exact Nat.ne_of_lt (blk_lt (g := gb239) (o := .cells #[.slice A0_0 l0_0.length c0_0, .slice A0_1 l0_1.length c0_1, .slice (some ad249) l0_2.length c0_2] 36 (0, 0)) (by (with_reducible repeat (first | refine blk_drewN ?_ _ | refine blk_drew ?_ | refine blk_alloc ?_ _)); exact BK239.out)) : gb239 ≠ gb250)); have n6_ := Aside0.mk ((by rw [hg]; exact Nat.ne_of_gt (blk_lt (g := gb239) (o := .cells #[.slice A0_0 l0_0.length c0_0, .slice A0_1 l0_1.length c0_1, .slice (some ad249) l0_2.length c0_2] 36 (0, 0)) (by (with_reducible repeat (first | refine blk_drewN ?_ _ | refine blk_drew ?_ | refine blk_alloc ?_ _)); exact BK239.out)) : gb250 ≠ gb239)); clear BK239; clear HB; have BK239 := n0_; have HB := n1_; have BK250 := n2_; have GW250 := n3_; have GE250 := n4_; have NB239_250 := n5_; have NB250_239 := n6_; clear n0_ n1_ n2_ n3_ n4_ n5_ n6_; clear hb hbox hg; have hnb111 := NB250_239.out; have hnc111 := NB239_250.out; have hcz112_0 : w110.cell? ⟨gb250, 0, none⟩ = some (.int .i64 0) := (blk_cell BK250.out 0).trans rfl; have hcz112_1 : w110.cell? ⟨gb250, 1, none⟩ = some (.int .i64 0) := (blk_cell BK250.out 1).trans rfl; have hfz112_0 := blk_frozen BK250.out 0; have hfz112_1 := blk_frozen BK250.out 1))
               have n0_ : Aside0 (((w110.setCell ⟨gb250, 0, none⟩ (.int .i64 ((rd_T47 l0_2 x63_3).f0))).setCell ⟨gb250, 1, none⟩ (.int .i64 ((rd_T47 l0_2 x63_3).f1))).heap[gb239]? = some (.cells #[.slice A0_0 l0_0.length c0_0, .slice A0_1 l0_1.length c0_1, .slice (some ad249) l0_2.length c0_2] 36 (0, 0))) := ⟨by (with_reducible repeat (first | refine blk_drewN ?_ _ | refine blk_drew ?_ | refine blk_alloc ?_ _)); refine blk_far ?_ NB239_250.out _; (with_reducible repeat (first | refine blk_drewN ?_ _ | refine blk_drew ?_ | refine blk_alloc ?_ _)); refine blk_far ?_ NB239_250.out _; (with_reducible repeat (first | refine blk_drewN ?_ _ | refine blk_drew ?_ | refine blk_alloc ?_ _)); exact BK239.out⟩
               have n1_ : Aside0 (((w110.setCell ⟨gb250, 0, none⟩ (.int .i64 ((rd_T47 l0_2 x63_3).f0))).setCell ⟨gb250, 1, none⟩ (.int .i64 ((rd_T47 l0_2 x63_3).f1))).heap[gb250]? = some (.cells #[.int .i64 ((rd_T47 l0_2 x63_3).f0), .int .i64 ((rd_T47 l0_2 x63_3).f1)] 47 (0, 0))) := ⟨by (with_reducible repeat (first | refine blk_drewN ?_ _ | refine blk_drew ?_ | refine blk_alloc ?_ _)); refine blk_put (cs := #[.int .i64 ((rd_T47 l0_2 x63_3).f0), .int .i64 0]) ?_ 1 _ rfl; (with_reducible repeat (first | refine blk_drewN ?_ _ | refine blk_drew ?_ | refine blk_alloc ?_ _)); refine blk_put (cs := #[.int .i64 0, .int .i64 0]) ?_ 0 _ rfl; (with_reducible repeat (first | refine blk_drewN ?_ _ | refine blk_drew ?_ | refine blk_alloc ?_ _)); exact BK250.out⟩
               have n2_ : Aside0 (Below w.heap.size w ((w110.setCell ⟨gb250, 0, none⟩ (.int .i64 ((rd_T47 l0_2 x63_3).f0))).setCell ⟨gb250, 1, none⟩ (.int .i64 ((rd_T47 l0_2 x63_3).f1)))) := ⟨by repeat (first | (with_reducible first | exact HB.out | apply below_alloc | apply pw_below_drewN | apply below_drew1 | refine below_set ?_ GE239.out | refine below_set ?_ GE250.out) | exact HB.out)⟩
               (try clear BK239)
               (try clear BK250)
               (try clear HB)
               generalize ((w110.setCell ⟨gb250, 0, none⟩ (.int .i64 ((rd_T47 l0_2 x63_3).f0))).setCell ⟨gb250, 1, none⟩ (.int .i64 ((rd_T47 l0_2 x63_3).f1))) = w113 at n0_ n1_ n2_ ⊢
               have BK239 := n0_
               have BK250 := n1_
               have HB := n2_
               clear n0_ n1_ n2_
               have n0_ := Aside0.mk (blk_drew BK239.out)
               have n1_ := Aside0.mk (blk_drew BK250.out)
               have n2_ := Aside0.mk (below_drew1 HB.out)
               clear BK239
               clear BK250
               clear HB
               have BK239 := n0_
               have BK250 := n1_
               have HB := n2_
               clear n0_ n1_ n2_
               refine start_ (n := 34) (S := fun w' => w'.cell? ⟨gb250, 0, none⟩ = some (.int .i64 ((rd_T47 l0_2 x63_3).f0)) ∧ w'.cell? ⟨gb250, 1, none⟩ = some (.int .i64 ((rd_T47 l0_2 x63_3).f1)) ∧ w'.cell? ⟨gb239, 0, none⟩ = some (.slice A0_0 l0_0.length c0_0) ∧ w'.cell? ⟨gb239, 1, none⟩ = some (.slice A0_1 l0_1.length c0_1) ∧ w'.cell? ⟨gb239, 2, none⟩ = some (.slice (some ad249) l0_2.length c0_2)) (ds := []) m9_0 (by kernel_rfl) rfl rfl ⟨(blk_cell BK250.out 0).trans rfl, (blk_cell BK250.out 1).trans rfl, (blk_cell BK239.out 0).trans rfl, (blk_cell BK239.out 1).trans rfl, (blk_cell BK239.out 2).trans rfl⟩ (fun hHeld => ?_); refine with_tabW impl_SourceOk.tab16 impl_SourceOk.bits16 (fun HT_ HW_ => ?_)
               generalize w113.drew = w114 at BK239 BK250 HB hHeld ⊢
               refine p9_ 0 (some 68) m9_1 (any_of HT_.out (by kernel_rfl)) ?_
               refine take_ (i := 1) (N := some 69) (v := ?_) (a' := ?_) m9_2 rfl rfl (take_ofW HT_.out HW_.out (by kernel_rfl)) (fun _ _ _ h => h) (Or.inl ⟨by rfl, ?_⟩) hHeld ?_ ?_
               rotate_left
               ·rintro w' ⟨s0, s1, s2, s3, s4⟩
                go_simp
                with_reducible rfl
               rotate_left
               ·simp only [Act.put, List.setIfInBounds_toArray, List.set_cons_zero, List.set_cons_succ, i64_w, i32_w]
                rfl
               refine one_ (i := 2) (N := some 70) m9_3 rfl rfl (one_of HT_.out (by kernel_rfl)) (by decide) (fun K hK => ?_)
               refine goes_ Try.func29 (by kernel_rfl) rfl #[.int .i64 ((rd_T47 l0_2 x63_3).f0)] (by rfl) rfl rfl (by (try simp only [List.map_toArray, List.map_cons, List.map_nil]); first | done | rfl | (simp only [List.length_drop, List.length_take]; rfl)) ?_
               with_reducible refine (impl_isGreat.calls ((rd_T47 l0_2 x63_3).f0) true _ A72.out).mono ?_
               rintro e w' ⟨rfl, ⟨nd, rfl⟩⟩
               refine ⟨_, rfl, ?_⟩
               refine hK.out _ _ ⟨(blk_cell BK250.out 0).trans rfl, (blk_cell BK250.out 1).trans rfl, (blk_cell BK239.out 0).trans rfl, (blk_cell BK239.out 1).trans rfl, (blk_cell BK239.out 2).trans rfl⟩ (fun hHeld => ?_)
               clear hK K
               refine norm_ (a' := ?_) ?_ ?_
               rotate_left
               ·show Act.put _ (some 70) _ = _
                simp only [Act.put, List.setIfInBounds_toArray, List.set_cons_zero, List.set_cons_succ, i64_w, i32_w]
                rfl
               refine p9_ 3 (some 71) m9_4 (any_of HT_.out (by kernel_rfl)) ?_
               refine p9_ 4 (some 72) m9_5 (any_of HT_.out (by kernel_rfl)) ?_
               refine p9_ 5 (some 73) m9_6 (any_of HT_.out (by kernel_rfl)) ?_
               refine p9_ 6 (some 74) m9_7 (any_of HT_.out (by kernel_rfl)) ?_
               refine p9_ 7 (some 75) m9_8 (any_of HT_.out (by kernel_rfl)) ?_
               refine u9_ 8 (some 76) m9_9 (any_of HT_.out (by kernel_rfl)) ?_
               refine u9_ 9 (some 77) m9_56 (any_of HT_.out (by kernel_rfl)) ?_
               refine u9_ 10 (some 78) m9_58 (any_of HT_.out (by kernel_rfl)) ?_
               refine u9_ 11 (some 79) m9_60 (any_of HT_.out (by kernel_rfl)) ?_
               refine u9_ 12 (some 80) m9_62 (any_of HT_.out (by kernel_rfl)) ?_
               refine u9_ 13 (some 81) m9_64 (any_of HT_.out (by kernel_rfl)) ?_
               refine u9_ 14 (some 82) m9_66 (any_of HT_.out (by kernel_rfl)) ?_
               refine u9_ 15 (some 83) m9_10 (any_of HT_.out (by kernel_rfl)) ?_
               refine u9_ 16 (some 84) m9_11 (any_of HT_.out (by kernel_rfl)) ?_
               refine u9_ 17 (some 85) m9_12 (any_of HT_.out (by kernel_rfl)) ?_
               refine p9_ 18 (some 86) m9_13 (any_of HT_.out (by kernel_rfl)) ?_
               refine p9_ 19 (some 87) m9_14 (any_of HT_.out (by kernel_rfl)) ?_
               refine p9_ 20 (some 88) m9_16 (any_of HT_.out (by kernel_rfl)) ?_
               refine p9_ 22 (some 90) m9_52 (any_of HT_.out (by kernel_rfl)) ?_
               refine take_ (i := 21) (N := some 89) (v := ?_) (a' := ?_) m9_19 rfl rfl (take_ofW HT_.out HW_.out (by kernel_rfl)) (fun _ _ _ h => h) (Or.inl ⟨by rfl, ?_⟩) hHeld ?_ ?_
               rotate_left
               ·rintro w' ⟨s0, s1, s2, s3, s4⟩
                go_simp
                with_reducible rfl
               rotate_left
               ·simp only [Act.put, List.setIfInBounds_toArray, List.set_cons_zero, List.set_cons_succ, i64_w, i32_w]
                rfl
               refine take_ (i := 23) (N := some 91) (v := ?_) (a' := ?_) m9_21 rfl rfl (take_ofW HT_.out HW_.out (by kernel_rfl)) (fun _ _ _ h => h) (Or.inl ⟨by rfl, ?_⟩) hHeld ?_ ?_
               rotate_left
               ·rintro w' ⟨s0, s1, s2, s3, s4⟩
                go_simp
                with_reducible rfl
               rotate_left
               ·simp only [Act.put, List.setIfInBounds_toArray, List.set_cons_zero, List.set_cons_succ, i64_w, i32_w]
                rfl
               refine one_ (i := 24) (N := some 92) m9_23 rfl rfl (one_of HT_.out (by kernel_rfl)) (by decide) (fun K hK => ?_)
               refine goes_ Try.func19 (by kernel_rfl) rfl #[.agg #[.slice A0_0 l0_0.length c0_0, .slice A0_1 l0_1.length c0_1, .slice (some ad249) l0_2.length c0_2], .int .i64 ((rd_T47 l0_2 x63_3).f1)] (by rfl) rfl rfl (by (try simp only [List.map_toArray, List.map_cons, List.map_nil]); first | done | rfl | (simp only [List.length_drop, List.length_take]; rfl)) ?_
               with_reducible refine (impl_zoneAt.calls _ _ l0_0 _ _ l0_1 _ _ l0_2 ((rd_T47 l0_2 x63_3).f1) t255 _ ?side1 ?side2 ?side3 ?side4 ?side5 ?side6 A101.out).mono ?_
               (case side1 => repeat (first | exact (Kd.C_below HR0_0.out (by repeat (first | (with_reducible first | exact HB.out | apply below_alloc | apply pw_below_drewN | apply below_drew1 | refine below_set ?_ GE239.out | refine below_set ?_ GE250.out) | exact HB.out))) | (with_reducible refine Kd.C_alloc ?_ _) | (with_reducible refine Kd.C_drewN ?_ _) | (with_reducible refine Kd.C_drew ?_)))
               (case side2 => exact HC0_0.out)
               (case side3 => repeat (first | exact (Kd.C_below HR0_1.out (by repeat (first | (with_reducible first | exact HB.out | apply below_alloc | apply pw_below_drewN | apply below_drew1 | refine below_set ?_ GE239.out | refine below_set ?_ GE250.out) | exact HB.out))) | (with_reducible refine Kd.C_alloc ?_ _) | (with_reducible refine Kd.C_drewN ?_ _) | (with_reducible refine Kd.C_drew ?_)))
               (case side4 => exact HC0_1.out)
               (case side5 => repeat (first | exact (Kd.C_below HR0_2.out (by repeat (first | (with_reducible first | exact HB.out | apply below_alloc | apply pw_below_drewN | apply below_drew1 | refine below_set ?_ GE239.out | refine below_set ?_ GE250.out) | exact HB.out))) | (with_reducible refine Kd.C_alloc ?_ _) | (with_reducible refine Kd.C_drewN ?_ _) | (with_reducible refine Kd.C_drew ?_)))
               (case side6 => exact HC0_2.out)
               rintro e w115 ⟨rfl, hb⟩
               refine ⟨_, rfl, ?_⟩
               have n0_ := Aside0.mk (blk_below (g := gb239) (o := .cells #[.slice A0_0 l0_0.length c0_0, .slice A0_1 l0_1.length c0_1, .slice (some ad249) l0_2.length c0_2] 36 (0, 0)) (by (with_reducible repeat (first | refine blk_drewN ?_ _ | refine blk_drew ?_ | refine blk_alloc ?_ _)); exact BK239.out) hb)
               have n1_ := Aside0.mk (blk_below (g := gb250) (o := .cells #[.int .i64 ((rd_T47 l0_2 x63_3).f0), .int .i64 ((rd_T47 l0_2 x63_3).f1)] 47 (0, 0)) (by (with_reducible repeat (first | refine blk_drewN ?_ _ | refine blk_drew ?_ | refine blk_alloc ?_ _)); exact BK250.out) hb)
               have n2_ := Aside0.mk (below_step (by repeat (first | (with_reducible first | exact HB.out | apply below_alloc | apply pw_below_drewN | apply below_drew1 | refine below_set ?_ GE239.out | refine below_set ?_ GE250.out) | exact HB.out)) hb)
               clear BK239
               clear BK250
               clear HB
               have BK239 := n0_
               have BK250 := n1_
               have HB := n2_
               clear n0_ n1_ n2_
               (try clear hb)
               (try clear hb2)
               (try clear hk)
               (try clear hi)
               refine hK.out _ _ ⟨(blk_cell BK250.out 0).trans rfl, (blk_cell BK250.out 1).trans rfl, (blk_cell BK239.out 0).trans rfl, (blk_cell BK239.out 1).trans rfl, (blk_cell BK239.out 2).trans rfl⟩ (fun hHeld => ?_)
               clear hK K
               refine norm_ (a' := ?_) ?_ ?_
               rotate_left
               ·show Act.put _ (some 92) _ = _
                simp only [Act.put, List.setIfInBounds_toArray, List.set_cons_zero, List.set_cons_succ, i64_w, i32_w]
                rfl
               refine p9_ 25 (some 93) m9_25 (any_of HT_.out (by kernel_rfl)) ?_
               refine p9_ 26 (some 94) m9_27 (any_of HT_.out (by kernel_rfl)) ?_
               refine p9_ 27 (some 95) m9_29 (any_of HT_.out (by kernel_rfl)) ?_
               refine p9_ 29 (some 97) m9_80 (any_of HT_.out (by kernel_rfl)) ?_
               refine take_ (i := 28) (N := some 96) (v := ?_) (a' := ?_) m9_31 rfl rfl (take_ofW HT_.out HW_.out (by kernel_rfl)) (fun _ _ _ h => h) (Or.inl ⟨by rfl, ?_⟩) hHeld ?_ ?_
               rotate_left
               ·rintro w' ⟨s0, s1, s2, s3, s4⟩
                go_simp
                with_reducible rfl
               rotate_left
               ·simp only [Act.put, List.setIfInBounds_toArray, List.set_cons_zero, List.set_cons_succ, i64_w, i32_w]
                rfl
               refine take_ (i := 30) (N := some 98) (v := ?_) (a' := ?_) m9_32 rfl rfl (take_ofW HT_.out HW_.out (by kernel_rfl)) (fun _ _ _ h => h) (Or.inl ⟨by rfl, ?_⟩) hHeld ?_ ?_
               rotate_left
               ·rintro w' ⟨s0, s1, s2, s3, s4⟩
                go_simp
                with_reducible rfl
               rotate_left
               ·simp only [Act.put, List.setIfInBounds_toArray, List.set_cons_zero, List.set_cons_succ, i64_w, i32_w]
                rfl
               refine one_ (i := 31) (N := some 99) m9_33 rfl rfl (one_of HT_.out (by kernel_rfl)) (by decide) (fun K hK => ?_)
               refine goes_ Try.func19 (by kernel_rfl) rfl #[.agg #[.slice A0_0 l0_0.length c0_0, .slice A0_1 l0_1.length c0_1, .slice (some ad249) l0_2.length c0_2], .int .i64 ((rd_T47 l0_2 x63_3).f0)] (by rfl) rfl rfl (by (try simp only [List.map_toArray, List.map_cons, List.map_nil]); first | done | rfl | (simp only [List.length_drop, List.length_take]; rfl)) ?_
               with_reducible refine (impl_zoneAt.calls _ _ l0_0 _ _ l0_1 _ _ l0_2 ((rd_T47 l0_2 x63_3).f0) t256 _ ?side1 ?side2 ?side3 ?side4 ?side5 ?side6 A109.out).mono ?_
               (case side1 => repeat (first | exact (Kd.C_below HR0_0.out HB.out) | (with_reducible refine Kd.C_alloc ?_ _) | (with_reducible refine Kd.C_drewN ?_ _) | (with_reducible refine Kd.C_drew ?_)))
               (case side2 => exact HC0_0.out)
               (case side3 => repeat (first | exact (Kd.C_below HR0_1.out HB.out) | (with_reducible refine Kd.C_alloc ?_ _) | (with_reducible refine Kd.C_drewN ?_ _) | (with_reducible refine Kd.C_drew ?_)))
               (case side4 => exact HC0_1.out)
               (case side5 => repeat (first | exact (Kd.C_below HR0_2.out HB.out) | (with_reducible refine Kd.C_alloc ?_ _) | (with_reducible refine Kd.C_drewN ?_ _) | (with_reducible refine Kd.C_drew ?_)))
               (case side6 => exact HC0_2.out)
               rintro e w116 ⟨rfl, hb⟩
               refine ⟨_, rfl, ?_⟩
               have n0_ := Aside0.mk (blk_below (g := gb239) (o := .cells #[.slice A0_0 l0_0.length c0_0, .slice A0_1 l0_1.length c0_1, .slice (some ad249) l0_2.length c0_2] 36 (0, 0)) (by (with_reducible repeat (first | refine blk_drewN ?_ _ | refine blk_drew ?_ | refine blk_alloc ?_ _)); exact BK239.out) hb)
               have n1_ := Aside0.mk (blk_below (g := gb250) (o := .cells #[.int .i64 ((rd_T47 l0_2 x63_3).f0), .int .i64 ((rd_T47 l0_2 x63_3).f1)] 47 (0, 0)) (by (with_reducible repeat (first | refine blk_drewN ?_ _ | refine blk_drew ?_ | refine blk_alloc ?_ _)); exact BK250.out) hb)
               have n2_ := Aside0.mk (below_step (by repeat (first | (with_reducible first | exact HB.out | apply below_alloc | apply pw_below_drewN | apply below_drew1 | refine below_set ?_ GE239.out | refine below_set ?_ GE250.out) | exact HB.out)) hb)
               clear BK239
               clear BK250
               clear HB
               have BK239 := n0_
               have BK250 := n1_
               have HB := n2_
               clear n0_ n1_ n2_
               (try clear hb)
               (try clear hb2)
               (try clear hk)
               (try clear hi)
               refine hK.out _ _ ⟨(blk_cell BK250.out 0).trans rfl, (blk_cell BK250.out 1).trans rfl, (blk_cell BK239.out 0).trans rfl, (blk_cell BK239.out 1).trans rfl, (blk_cell BK239.out 2).trans rfl⟩ (fun hHeld => ?_)
               clear hK K
               refine norm_ (a' := ?_) ?_ ?_
               rotate_left
               ·show Act.put _ (some 99) _ = _
                simp only [Act.put, List.setIfInBounds_toArray, List.set_cons_zero, List.set_cons_succ, i64_w, i32_w]
                rfl
               refine p9_ 32 (some 100) m9_34 (any_of HT_.out (by kernel_rfl)) ?_
               refine p9_ 33 (some 101) m9_35 (any_of HT_.out (by kernel_rfl)) ?_
               refine done_ (done_of HT_.out (by kernel_rfl)) ?_
               go_upto_if 101 with (fail)
               by_cases c117 : t256 ≥ 0
               ·rw [if_pos c117] at H
                have c117b0 : decide (0 ≤ t256) = true := decide_eq_true c117
                clear c117
                (first | rw [c117b0] | (simp only [i64_w, i32_w]; rw [c117b0]) | skip)
                obtain rfl := Option.some.inj H
                go_wp2
                go_ret
                exact ⟨by first | rfl | (simp [errW_none, errW_some] <;> rfl) | (simp [*, errW_none, errW_some] <;> rfl), by repeat (first | (with_reducible first | exact HB.out | apply below_alloc | apply pw_below_drewN | apply below_drew1 | refine below_set ?_ GE239.out | refine below_set ?_ GE250.out) | exact HB.out)⟩
               ·rw [if_neg c117] at H
                have c117b0 : decide (0 ≤ t256) = false := decide_eq_false c117
                clear c117
                (first | rw [c117b0] | (simp only [i64_w, i32_w]; rw [c117b0]) | skip)
                have H' := Aside0.mk H
                clear H
                go_wp2
                go_roundg k3
                case measure => have := HK1.out; have := HK2.out; have := HK3.out; omega
                case rel => exact ⟨(wrap64 (x63_3 + 1)), (by first | rfl | (simp; done) | (simp [*]; done)), H', ⟨by have := HK1.out; have := HK2.out; have := HK3.out; omega⟩, ⟨by (with_reducible repeat (first | refine blk_drewN ?_ _ | refine blk_drew ?_ | refine blk_alloc ?_ _)); exact BK239.out⟩, ⟨by repeat (first | (with_reducible first | exact HB.out | apply below_alloc | apply pw_below_drewN | apply below_drew1 | refine below_set ?_ GE239.out | refine below_set ?_ GE250.out) | exact HB.out)⟩⟩
            ·replace c73 := Bool.eq_false_iff.mpr c73
             subst c73
             have H1 : (some false) = some r := by rw [if_neg (show ¬ (false = true) by decide)] at H; exact H
             clear H
             have H := H1
             clear H1
             obtain rfl := Option.some.inj H
             have p249 : 0 ≤ (x63_3 : Int) := of_decide_eq_true (by first | (with_reducible assumption) | assumption)
             have q249 : x63_3 < (l0_2.length : Int) := of_decide_eq_true (by first | (with_reducible assumption) | assumption)
             obtain ⟨ad249, e249, hx249_0, hx249_1⟩ := at_T47 HR0_2.out x63_3 p249 q249
             cases e249
             replace hx249_0 := (HB.out.cell (World.block_lt_of_cell? w _ hx249_0)).trans hx249_0
             replace hx249_1 := (HB.out.cell (World.block_lt_of_cell? w _ hx249_1)).trans hx249_1
             replace p249 := eq_true p249
             replace q249 := eq_true q249
             try go_wp2_with (first | ((with_reducible refine gate_dst (N := 8) rfl ?_); refine box_event ?hg (N := 8) ?hd (cs := #[.int .i64 0, .int .i64 0]) (t := 47) ?hr ?_; (case hd => rfl); (case hg => rfl); (case hr => first | (go_simp; done) | (go_simp; rfl)); intro gb250 hg w118 hbox hb; have n0_ := Aside0.mk (blk_below (g := gb239) (o := .cells #[.slice A0_0 l0_0.length c0_0, .slice A0_1 l0_1.length c0_1, .slice (some ad249) l0_2.length c0_2] 36 (0, 0)) (by (with_reducible repeat (first | refine blk_drewN ?_ _ | refine blk_drew ?_ | refine blk_alloc ?_ _)); exact BK239.out) hb); have n1_ := Aside0.mk (below_step (by repeat (first | (with_reducible first | exact HB.out | apply below_alloc | apply pw_below_drewN | apply below_drew1 | refine below_set ?_ GE239.out) | exact HB.out)) hb); have n2_ := Aside0.mk (hbox); have n3_ := Aside0.mk ((by rw [hg]; exact (below_size (by repeat (first | (with_reducible first | exact HB.out | apply below_alloc | apply pw_below_drewN | apply below_drew1 | refine below_set ?_ GE239.out) | exact HB.out))) : w.heap.size ≤ gb250)); have n4_ := Aside0.mk ((by rw [hg]; exact (below_size (by repeat (first | (with_reducible first | exact HB.out | apply below_alloc | apply pw_below_drewN | apply below_drew1 | refine below_set ?_ GE239.out) | exact HB.out))) : w.heap.size ≤ gb250)); have n5_ := Aside0.mk ((by rw [hg]; exact Nat.ne_of_lt (blk_lt (g := gb239) (o := .cells #[.slice A0_0 l0_0.length c0_0, .slice A0_1 l0_1.length c0_1, .slice (some ad249) l0_2.length c0_2] 36 (0, 0)) (by (with_reducible repeat (first | refine blk_drewN ?_ _ | refine blk_drew ?_ | refine blk_alloc ?_ _)); exact BK239.out)) : gb239 ≠ gb250)); have n6_ := Aside0.mk ((by rw [hg]; exact Nat.ne_of_gt (blk_lt (g := gb239) (o := .cells #[.slice A0_0 l0_0.length c0_0, .slice A0_1 l0_1.length c0_1, .slice (some ad249) l0_2.length c0_2] 36 (0, 0)) (by (with_reducible repeat (first | refine blk_drewN ?_ _ | refine blk_drew ?_ | refine blk_alloc ?_ _)); exact BK239.out)) : gb250 ≠ gb239)); clear BK239; clear HB; have BK239 := n0_; have HB := n1_; have BK250 := n2_; have GW250 := n3_; have GE250 := n4_; have NB239_250 := n5_; have NB250_239 := n6_; clear n0_ n1_ n2_ n3_ n4_ n5_ n6_; clear hb hbox hg; have hnb119 := NB250_239.out; have hnc119 := NB239_250.out; have hcz120_0 : w118.cell? ⟨gb250, 0, none⟩ = some (.int .i64 0) := (blk_cell BK250.out 0).trans rfl; have hcz120_1 : w118.cell? ⟨gb250, 1, none⟩ = some (.int .i64 0) := (blk_cell BK250.out 1).trans rfl; have hfz120_0 := blk_frozen BK250.out 0; have hfz120_1 := blk_frozen BK250.out 1))
             have n0_ : Aside0 (((w118.setCell ⟨gb250, 0, none⟩ (.int .i64 ((rd_T47 l0_2 x63_3).f0))).setCell ⟨gb250, 1, none⟩ (.int .i64 ((rd_T47 l0_2 x63_3).f1))).heap[gb239]? = some (.cells #[.slice A0_0 l0_0.length c0_0, .slice A0_1 l0_1.length c0_1, .slice (some ad249) l0_2.length c0_2] 36 (0, 0))) := ⟨by (with_reducible repeat (first | refine blk_drewN ?_ _ | refine blk_drew ?_ | refine blk_alloc ?_ _)); refine blk_far ?_ NB239_250.out _; (with_reducible repeat (first | refine blk_drewN ?_ _ | refine blk_drew ?_ | refine blk_alloc ?_ _)); refine blk_far ?_ NB239_250.out _; (with_reducible repeat (first | refine blk_drewN ?_ _ | refine blk_drew ?_ | refine blk_alloc ?_ _)); exact BK239.out⟩
             have n1_ : Aside0 (((w118.setCell ⟨gb250, 0, none⟩ (.int .i64 ((rd_T47 l0_2 x63_3).f0))).setCell ⟨gb250, 1, none⟩ (.int .i64 ((rd_T47 l0_2 x63_3).f1))).heap[gb250]? = some (.cells #[.int .i64 ((rd_T47 l0_2 x63_3).f0), .int .i64 ((rd_T47 l0_2 x63_3).f1)] 47 (0, 0))) := ⟨by (with_reducible repeat (first | refine blk_drewN ?_ _ | refine blk_drew ?_ | refine blk_alloc ?_ _)); refine blk_put (cs := #[.int .i64 ((rd_T47 l0_2 x63_3).f0), .int .i64 0]) ?_ 1 _ rfl; (with_reducible repeat (first | refine blk_drewN ?_ _ | refine blk_drew ?_ | refine blk_alloc ?_ _)); refine blk_put (cs := #[.int .i64 0, .int .i64 0]) ?_ 0 _ rfl; (with_reducible repeat (first | refine blk_drewN ?_ _ | refine blk_drew ?_ | refine blk_alloc ?_ _)); exact BK250.out⟩
             have n2_ : Aside0 (Below w.heap.size w ((w118.setCell ⟨gb250, 0, none⟩ (.int .i64 ((rd_T47 l0_2 x63_3).f0))).setCell ⟨gb250, 1, none⟩ (.int .i64 ((rd_T47 l0_2 x63_3).f1)))) := ⟨by repeat (first | (with_reducible first | exact HB.out | apply below_alloc | apply pw_below_drewN | apply below_drew1 | refine below_set ?_ GE239.out | refine below_set ?_ GE250.out) | exact HB.out)⟩
             (try clear BK239)
             (try clear BK250)
             (try clear HB)
             generalize ((w118.setCell ⟨gb250, 0, none⟩ (.int .i64 ((rd_T47 l0_2 x63_3).f0))).setCell ⟨gb250, 1, none⟩ (.int .i64 ((rd_T47 l0_2 x63_3).f1))) = w121 at n0_ n1_ n2_ ⊢
             have BK239 := n0_
             have BK250 := n1_
             have HB := n2_
             clear n0_ n1_ n2_
             have n0_ := Aside0.mk (blk_drew BK239.out)
             have n1_ := Aside0.mk (blk_drew BK250.out)
             have n2_ := Aside0.mk (below_drew1 HB.out)
             clear BK239
             clear BK250
             clear HB
             have BK239 := n0_
             have BK250 := n1_
             have HB := n2_
             clear n0_ n1_ n2_
             refine start_ (n := 34) (S := fun w' => w'.cell? ⟨gb250, 0, none⟩ = some (.int .i64 ((rd_T47 l0_2 x63_3).f0)) ∧ w'.cell? ⟨gb250, 1, none⟩ = some (.int .i64 ((rd_T47 l0_2 x63_3).f1))) (ds := []) m9_0 (by kernel_rfl) rfl rfl ⟨(blk_cell BK250.out 0).trans rfl, (blk_cell BK250.out 1).trans rfl⟩ (fun hHeld => ?_); refine with_tabW impl_SourceOk.tab16 impl_SourceOk.bits16 (fun HT_ HW_ => ?_)
             generalize w121.drew = w122 at BK239 BK250 HB hHeld ⊢
             refine p9_ 0 (some 68) m9_1 (any_of HT_.out (by kernel_rfl)) ?_
             refine take_ (i := 1) (N := some 69) (v := ?_) (a' := ?_) m9_2 rfl rfl (take_ofW HT_.out HW_.out (by kernel_rfl)) (fun _ _ _ h => h) (Or.inl ⟨by rfl, ?_⟩) hHeld ?_ ?_
             rotate_left
             ·rintro w' ⟨s0, s1⟩
              go_simp
              with_reducible rfl
             rotate_left
             ·simp only [Act.put, List.setIfInBounds_toArray, List.set_cons_zero, List.set_cons_succ, i64_w, i32_w]
              rfl
             refine one_ (i := 2) (N := some 70) m9_3 rfl rfl (one_of HT_.out (by kernel_rfl)) (by decide) (fun K hK => ?_)
             refine goes_ Try.func29 (by kernel_rfl) rfl #[.int .i64 ((rd_T47 l0_2 x63_3).f0)] (by rfl) rfl rfl (by (try simp only [List.map_toArray, List.map_cons, List.map_nil]); first | done | rfl | (simp only [List.length_drop, List.length_take]; rfl)) ?_
             with_reducible refine (impl_isGreat.calls ((rd_T47 l0_2 x63_3).f0) false _ A72.out).mono ?_
             rintro e w' ⟨rfl, ⟨nd, rfl⟩⟩
             refine ⟨_, rfl, ?_⟩
             refine hK.out _ _ ⟨(blk_cell BK250.out 0).trans rfl, (blk_cell BK250.out 1).trans rfl⟩ (fun hHeld => ?_)
             clear hK K
             refine norm_ (a' := ?_) ?_ ?_
             rotate_left
             ·show Act.put _ (some 70) _ = _
              simp only [Act.put, List.setIfInBounds_toArray, List.set_cons_zero, List.set_cons_succ, i64_w, i32_w]
              rfl
             refine p9_ 3 (some 71) m9_4 (any_of HT_.out (by kernel_rfl)) ?_
             refine p9_ 4 (some 72) m9_5 (any_of HT_.out (by kernel_rfl)) ?_
             refine u9_ 5 (some 73) m9_6 (any_of HT_.out (by kernel_rfl)) ?_
             refine u9_ 6 (some 74) m9_7 (any_of HT_.out (by kernel_rfl)) ?_
             refine u9_ 7 (some 75) m9_8 (any_of HT_.out (by kernel_rfl)) ?_
             refine u9_ 8 (some 76) m9_9 (any_of HT_.out (by kernel_rfl)) ?_
             refine u9_ 9 (some 77) m9_56 (any_of HT_.out (by kernel_rfl)) ?_
             refine u9_ 10 (some 78) m9_58 (any_of HT_.out (by kernel_rfl)) ?_
             refine u9_ 11 (some 79) m9_60 (any_of HT_.out (by kernel_rfl)) ?_
             refine u9_ 12 (some 80) m9_62 (any_of HT_.out (by kernel_rfl)) ?_
             refine u9_ 13 (some 81) m9_64 (any_of HT_.out (by kernel_rfl)) ?_
             refine u9_ 14 (some 82) m9_66 (any_of HT_.out (by kernel_rfl)) ?_
             refine u9_ 15 (some 83) m9_10 (any_of HT_.out (by kernel_rfl)) ?_
             refine u9_ 16 (some 84) m9_11 (any_of HT_.out (by kernel_rfl)) ?_
             refine u9_ 17 (some 85) m9_12 (any_of HT_.out (by kernel_rfl)) ?_
             refine u9_ 18 (some 86) m9_13 (any_of HT_.out (by kernel_rfl)) ?_
             refine p9_ 19 (some 87) m9_14 (any_of HT_.out (by kernel_rfl)) ?_
             refine p9_ 20 (some 88) m9_16 (any_of HT_.out (by kernel_rfl)) ?_
             refine u9_ 21 (some 89) m9_79 (any_of HT_.out (by kernel_rfl)) ?_
             refine u9_ 22 (some 90) m9_19 (any_of HT_.out (by kernel_rfl)) ?_
             refine u9_ 23 (some 91) m9_21 (any_of HT_.out (by kernel_rfl)) ?_
             refine u9_ 24 (some 92) m9_23 (any_of HT_.out (by kernel_rfl)) ?_
             refine u9_ 25 (some 93) m9_25 (any_of HT_.out (by kernel_rfl)) ?_
             refine p9_ 26 (some 94) m9_27 (any_of HT_.out (by kernel_rfl)) ?_
             refine p9_ 27 (some 95) m9_29 (any_of HT_.out (by kernel_rfl)) ?_
             refine u9_ 28 (some 96) m9_53 (any_of HT_.out (by kernel_rfl)) ?_
             refine u9_ 29 (some 97) m9_31 (any_of HT_.out (by kernel_rfl)) ?_
             refine u9_ 30 (some 98) m9_32 (any_of HT_.out (by kernel_rfl)) ?_
             refine u9_ 31 (some 99) m9_33 (any_of HT_.out (by kernel_rfl)) ?_
             refine u9_ 32 (some 100) m9_34 (any_of HT_.out (by kernel_rfl)) ?_
             refine p9_ 33 (some 101) m9_35 (any_of HT_.out (by kernel_rfl)) ?_
             refine done_ (done_of HT_.out (by kernel_rfl)) ?_
             try go_wp2
             go_ret
             exact ⟨by first | rfl | (simp [errW_none, errW_some] <;> rfl) | (simp [*, errW_none, errW_some] <;> rfl), by repeat (first | (with_reducible first | exact HB.out | apply below_alloc | apply pw_below_drewN | apply below_drew1 | refine below_set ?_ GE239.out | refine below_set ?_ GE250.out) | exact HB.out)⟩
           ·rw [if_neg c71] at H
            exact absurd H (by simp)
          ·rw [if_neg c70] at H
           exact absurd H (by simp)
         ·rw [if_neg c69] at H
          have c69b0 : decide (x63_3 < (l0_2.length : Int)) = false := decide_eq_false c69
          clear c69
          (first | rw [c69b0] | (simp only [i64_w, i32_w]; rw [c69b0]) | skip)
          obtain rfl := Option.some.inj H
          have hcz123_0 : wr.cell? ⟨gb239, 0, none⟩ = some (.slice A0_0 l0_0.length c0_0) := (blk_cell BK239.out 0).trans rfl
          have hcz123_1 : wr.cell? ⟨gb239, 1, none⟩ = some (.slice A0_1 l0_1.length c0_1) := (blk_cell BK239.out 1).trans rfl
          have hcz123_2 : wr.cell? ⟨gb239, 2, none⟩ = some (.slice A0_2 l0_2.length c0_2) := (blk_cell BK239.out 2).trans rfl
          have hfz123_0 := blk_frozen BK239.out 0
          have hfz123_1 := blk_frozen BK239.out 1
          have hfz123_2 := blk_frozen BK239.out 2
          go_wp2
          go_ret
          exact ⟨by first | rfl | (simp [errW_none, errW_some] <;> rfl) | (simp [*, errW_none, errW_some] <;> rfl), by repeat (first | (with_reducible first | exact HB.out | apply below_alloc | apply pw_below_drewN | apply below_drew1 | refine below_set ?_ GE239.out) | exact HB.out)⟩

end Go.Proofs.Ytffchioimceemaa.QFnExactZoneOf
