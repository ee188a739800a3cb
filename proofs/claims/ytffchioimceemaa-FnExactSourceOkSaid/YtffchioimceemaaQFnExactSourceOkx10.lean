-- Written by a program of this session (wip/xprint.py), which turns a copy of the kit's print: its own text, no printed one.
import Derived.Test.YtffchioimceemaaQFnExactSourceOkx0
namespace Go.Proofs.Ytffchioimceemaa.QFnExactSourceOk
open Go.RowKit Go.Proofs.YtffchioimceemaaW.PrintWords Go.Proofs.YtffchioimceemaaW.PrintLast Go.Proofs.YtffchioimceemaaW.PrintMore
attribute [local go_sem] max2_int min2_int max_two min_two max_three min_three max_four min_four   -- for this text's walks alone
set_option linter.unusedVariables false
set_option linter.unusedSimpArgs false

/-! ### impl_hasRule: function 28 -/
/-- The place of the first element of that name, from place i on; -1 without one. -/
def impl_hasRule.at_ : List S59 → Int → Nat → Int
 | [], _, _ => -1
 | z :: zs, a, i => if (z.f0 == a) = true then (i : Int) else impl_hasRule.at_ zs a (i + 1)
def impl_hasRule.f (l0_0 : List (S59)) (l0_1 : List (S29)) (l0_2 : List (S47)) (a1 : Int) : Option (Bool) := some (decide (impl_hasRule.at_ l0_0 a1 0 ≥ 0))
theorem impl_hasRule.drop_ (l : List S59) (a : Int) (k : Nat) (hk : k < l.length) : impl_hasRule.at_ (l.drop k) a k = if ((rd_T59 l k).f0 == a) = true then (k : Int) else impl_hasRule.at_ (l.drop (k + 1)) a (k + 1) := by
 rw [List.drop_eq_getElem_cons hk]
 simp only [impl_hasRule.at_, rd_T59, Int.toNat_natCast, List.getD_eq_getElem?_getD, List.getElem?_eq_getElem hk, Option.getD_some]
set_option maxHeartbeats 1000000 in
theorem impl_hasRule.pred (x : S59) (a : Int) (B : Nat) (w : World) (hc : w.cell? ⟨B, 0, none⟩ = some (.int .i64 a)) (hB : B < w.heap.size) :
  Calls Try.prog 49 #[.agg #[.int .i64 x.f0, .int .i64 x.f1, .int .i64 x.f2, .int .i64 x.f3, .int .i64 x.f4.f0, .int .i64 x.f4.f1, .int .i64 x.f4.f2, .int .i64 x.f5, .int .i64 x.f6], .pointer (some ⟨B, 0, none⟩)] w fun e w' => e = .returned (.bool (x.f0 == a)) ∧ Below w.heap.size w w' := by
 go_enter Try.func49, Try.ntmps49
 go_wp2
 go_ret
 exact ⟨rfl, (Below.refl _ _).alloc (Nat.le_refl _) _⟩
set_option maxHeartbeats 2000000 in
theorem impl_hasRule.idx (A0 : Option Addr) (c0 : Nat) (l0 : List S59) (a : Int) (B : Nat) (w : World) (hr : Kd.C k59 w A0 l0.length l0) (hc : w.cell? ⟨B, 0, none⟩ = some (.int .i64 a)) (hB : B < w.heap.size) :
  Calls Try.prog 52 #[.slice A0 l0.length c0, .func (.func 49) #[] #[.pointer (some ⟨B, 0, none⟩)]] w fun e w' => e = .returned (.int .i64 (impl_hasRule.at_ l0 a 0)) ∧ Below w.heap.size w w' := by
 have hbig : l0.length ≤ 9223372036854775807 := hr.2.1
 have HR := Aside0.mk hr
 have HC := Aside0.mk hc
 have HB := Aside0.mk hB
 clear hr hc hB
 go_enter Try.func52, Try.ntmps52
 go_wp2
 go_loopg [5, 8] l0.length (fun gg _ s8 wr => ∃ kk : Nat, kk ≤ l0.length ∧ l0.length - kk ≤ gg ∧ s8 = .int .i64 kk ∧ Aside0 (Below w.heap.size w wr) ∧ Aside0 (impl_hasRule.at_ (l0.drop kk) a kk = impl_hasRule.at_ l0 a 0))
 case atStart => exact ⟨0, Nat.zero_le _, by omega, rfl, ⟨Below.refl _ w⟩, ⟨rfl⟩⟩
 case round =>
  obtain ⟨kk, hkk, hg, rfl, BW, AT⟩ := hrel
  by_cases hlt : kk < l0.length
  ·have hltz : (kk : Int) < (l0.length : Int) := by omega
   have hsz := BW.out.size
   obtain ⟨ad, rfl, h0, h1, h2, h3, h4, h5, h6, h7, h8⟩ := at_T59 (Kd.C_below HR.out BW.out) (kk : Int) (by omega) hltz
   simp only [Int.toNat_natCast] at h0 h1 h2 h3 h4 h5 h6 h7 h8
   have hcall := impl_hasRule.pred (rd_T59 l0 kk) a B wr ((BW.out.cell (p := ⟨B, 0, none⟩) HB.out).trans HC.out) (Nat.lt_of_lt_of_le HB.out hsz)
   have D := Aside0.mk (impl_hasRule.drop_ l0 a kk hlt)
   generalize hy : rd_T59 l0 kk = y at h0 h1 h2 h3 h4 h5 h6 h7 h8 hcall D
   clear hy
   cases hq : (y.f0 == a) with
   | true =>
    rw [hq] at hcall D
    go_wp2_with (go_at_call 49; refine hcall.mono ?_; rintro e w' ⟨rfl, hb'⟩)
    go_ret
    refine ⟨?_, BW.out.trans (hb'.mono hsz)⟩
    rw [← AT.out, D.out]
    simp
   | false =>
    rw [hq] at hcall D
    go_wp2_with (go_at_call 49; refine hcall.mono ?_; rintro e w' ⟨rfl, hb'⟩)
    go_roundg (l0.length - (kk + 1))
    case measure => omega
    case rel => exact ⟨kk + 1, by omega, by omega, by go_num, ⟨BW.out.trans (hb'.mono hsz)⟩, ⟨by rw [← AT.out, D.out]; simp⟩⟩
  ·have hltz : ¬ (kk : Int) < (l0.length : Int) := by omega
   have : kk = l0.length := by omega
   subst this
   go_wp2
   go_ret
   refine ⟨?_, BW.out⟩
   rw [← AT.out, List.drop_length]
   rfl
set_option maxHeartbeats 1000000 in
theorem impl_hasRule.has (A0 : Option Addr) (c0 : Nat) (l0 : List S59) (a : Int) (B : Nat) (w : World) (hr : Kd.C k59 w A0 l0.length l0) (hc : w.cell? ⟨B, 0, none⟩ = some (.int .i64 a)) (hB : B < w.heap.size) :
  Calls Try.prog 48 #[.slice A0 l0.length c0, .func (.func 49) #[] #[.pointer (some ⟨B, 0, none⟩)]] w fun e w' => e = .returned (.bool (decide (impl_hasRule.at_ l0 a 0 ≥ 0))) ∧ Below w.heap.size w w' := by
 go_enter Try.func48, Try.ntmps48
 go_wp2_with (go_at_call 52; refine (impl_hasRule.idx A0 c0 l0 a B _ hr hc hB).mono ?_; rintro e w' ⟨rfl, hb'⟩)
 go_ret
 exact ⟨rfl, hb'⟩
set_option maxHeartbeats 2000000 in
theorem impl_hasRule.calls (A0_0 : Option Addr) (c0_0 : Nat) (l0_0 : List (S59)) (A0_1 : Option Addr) (c0_1 : Nat) (l0_1 : List (S29)) (A0_2 : Option Addr) (c0_2 : Nat) (l0_2 : List (S47)) (a1 : Int) (r : Bool) (w : World) (hr0_0 : Kd.C k59 w A0_0 l0_0.length l0_0) (hc0_0 : l0_0.length ≤ c0_0) (hr0_1 : Kd.C k29 w A0_1 l0_1.length l0_1) (hc0_1 : l0_1.length ≤ c0_1) (hr0_2 : Kd.C k47 w A0_2 l0_2.length l0_2) (hc0_2 : l0_2.length ≤ c0_2) (h : impl_hasRule.f l0_0 l0_1 l0_2 a1 = some r) :
  Calls Try.prog 28 #[.agg #[.slice A0_0 l0_0.length c0_0, .slice A0_1 l0_1.length c0_1, .slice A0_2 l0_2.length c0_2], .int .i64 a1] w fun e w' => e = .returned (.bool r) ∧ Below w.heap.size w w' := by
 obtain rfl := Option.some.inj h
 have HR := Aside0.mk hr0_0
 clear h hr0_0 hr0_1 hr0_2
 go_enter Try.func28, Try.ntmps28
 go_wp2_with (go_at_call 48; refine (impl_hasRule.has A0_0 c0_0 l0_0 a1 (w.heap.size + 1) _ (Kd.C_alloc (Kd.C_alloc HR.out _) _) (by simp) (by simp)).mono ?_; rintro e w' ⟨rfl, hb'⟩)
 go_ret
 exact ⟨rfl, ((((Below.refl _ _).alloc (Nat.le_refl _) _).alloc (by simp) _).trans (hb'.mono (by simp; omega)))⟩

end Go.Proofs.Ytffchioimceemaa.QFnExactSourceOk
