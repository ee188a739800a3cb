-- Written by a program of this session (wip/opq/msgfits.py).
import Derived.Test.YtngilepbpfdigaaQFnExactMsgFitsx1
import Derived.Test.YtngilepbpfdigaaQFnExactMsgFitsx2
import Derived.Test.YtngilepbpfdigaaQFnExactMsgFitsx11
namespace Go.Proofs.Ytngilepbpfdigaa.QFnExactMsgFits
open Go.RowKit Go.Proofs.YtngilepbpfdigaaW.PrintWords Go.Proofs.YtngilepbpfdigaaW.PrintLast Go.Proofs.YtngilepbpfdigaaW.PrintMore Go.Proofs.Ytngilepbpfdigaa.Pure
set_option linter.unusedVariables false
set_option linter.unusedSimpArgs false
def tkB (c : Int) : X32 → Bool
  | (a0, a1, a2, a3, a4, a5, a6, a7, a8, a9, a10, a11, a12, a13, a14, l) => if c = 102 then inr 0 4 a1 else if c = 116 then inr 0 1000000000 a2 else if c = 97 then inr 0 80 a3 else if c = 120 then inr 0 1000000000 a4 else if c = 99 then inr 0 80 a5 else if c = 121 then true else if c = 114 then inr 1 1000 a7 else if c = 112 then inr 0 1000 a8 else if c = 98 then inr 1 16 (a9.size : Int) else if c = 100 then cOk a10 a11 a12 a13 a14 else decide ((l.length : Int) ≤ 6) && l.all entT
def tkX (c : Int) : X32 → X32
  | (a0, a1, a2, a3, a4, a5, a6, a7, a8, a9, a10, a11, a12, a13, a14, l) => if c = 102 then (a0, 0, a2, a3, a4, a5, a6, a7, a8, a9, a10, a11, a12, a13, a14, l) else if c = 116 then (a0, a1, 0, a3, a4, a5, a6, a7, a8, a9, a10, a11, a12, a13, a14, l) else if c = 97 then (a0, a1, a2, 0, a4, a5, a6, a7, a8, a9, a10, a11, a12, a13, a14, l) else if c = 120 then (a0, a1, a2, a3, 0, a5, a6, a7, a8, a9, a10, a11, a12, a13, a14, l) else if c = 99 then (a0, a1, a2, a3, a4, 0, a6, a7, a8, a9, a10, a11, a12, a13, a14, l) else if c = 121 then (a0, a1, a2, a3, a4, a5, false, a7, a8, a9, a10, a11, a12, a13, a14, l) else if c = 114 then (a0, a1, a2, a3, a4, a5, a6, 0, a8, a9, a10, a11, a12, a13, a14, l) else if c = 112 then (a0, a1, a2, a3, a4, a5, a6, a7, 0, a9, a10, a11, a12, a13, a14, l) else if c = 98 then (a0, a1, a2, a3, a4, a5, a6, a7, a8, (⟨#[]⟩ : ByteArray), a10, a11, a12, a13, a14, l) else if c = 100 then (a0, a1, a2, a3, a4, a5, a6, a7, a8, a9, 0, 0, 0, 0, (⟨#[]⟩ : ByteArray), l) else (a0, a1, a2, a3, a4, a5, a6, a7, a8, a9, a10, a11, a12, a13, a14, [])
set_option maxHeartbeats 2000000 in
theorem take_102 (a0 : Int) (a1 : Int) (a2 : Int) (a3 : Int) (a4 : Int) (a5 : Int) (a6 : Bool) (a7 : Int) (a8 : Int) (a9 : ByteArray) (a10 : Int) (a11 : Int) (a12 : Int) (a13 : Int) (a14 : ByteArray) (A : Option Addr) (cp : Nat) (l : List S40) (w0 W : World) (g : Nat) (hg : W.heap[g]? = some (.cells #[.int .i64 a0, .int .i64 a1, .int .i64 a2, .int .i64 a3, .int .i64 a4, .int .i64 a5, .bool a6, .int .i64 a7, .int .i64 a8, .string a9, .int .i64 a10, .int .i64 a11, .int .i64 a12, .int .i64 a13, .string a14, .slice A l.length cp] 32 (0, 0))) (hr : Kd.C k40 w0 A l.length l) (hc : l.length ≤ cp) (hB : Below w0.heap.size w0 W) (hge : w0.heap.size ≤ g) :
    Calls Try.prog 25 #[.pointer (some ⟨g, 0, none⟩), .int .u8 102] W fun e W' => e = .returned (.bool (inr 0 4 a1)) ∧ (∃ ds, W'.heap[g]? = some (.cells ds 32 (0, 0)) ∧ M32 w0 ((a0, 0, a2, a3, a4, a5, a6, a7, a8, a9, a10, a11, a12, a13, a14, l)) ds) ∧ Below w0.heap.size w0 W' ∧ KeepBut W W' g none := by
  have hcz : W.cell? ⟨g, 1, none⟩ = some (.int .i64 a1) := (blk_cell hg 1).trans rfl
  have hfz := blk_frozen hg 1
  have HG := Aside0.mk hg
  have HR := Aside0.mk hr
  have HB := Aside0.mk hB
  clear hg hr
  go_enter Try.func25, Try.ntmps25
  go_wp2_with (go_at_call 30; refine (node_t a1 _).mono ?_; rintro e w' ⟨rfl, ⟨nd, rfl⟩⟩)
  go_ret
  refine ⟨rfl, ⟨#[.int .i64 a0, .int .i64 0, .int .i64 a2, .int .i64 a3, .int .i64 a4, .int .i64 a5, .bool a6, .int .i64 a7, .int .i64 a8, .string a9, .int .i64 a10, .int .i64 a11, .int .i64 a12, .int .i64 a13, .string a14, .slice A l.length cp], ?_, A, cp, rfl, hc, HR.out⟩, by repeat (first | exact hB | apply below_alloc | apply pw_below_drewN | apply below_drew1 | refine below_set ?_ hge), by repeat (first | exact KeepBut.refl _ _ _ | apply KeepBut.set_ | apply keep_drewN | apply keep_drew)⟩
  exact blk_put (cs := #[.int .i64 a0, .int .i64 a1, .int .i64 a2, .int .i64 a3, .int .i64 a4, .int .i64 a5, .bool a6, .int .i64 a7, .int .i64 a8, .string a9, .int .i64 a10, .int .i64 a11, .int .i64 a12, .int .i64 a13, .string a14, .slice A l.length cp]) (by first | exact blk_drewN HG.out _ | exact HG.out) 1 _ rfl

set_option maxHeartbeats 2000000 in
theorem take_116 (a0 : Int) (a1 : Int) (a2 : Int) (a3 : Int) (a4 : Int) (a5 : Int) (a6 : Bool) (a7 : Int) (a8 : Int) (a9 : ByteArray) (a10 : Int) (a11 : Int) (a12 : Int) (a13 : Int) (a14 : ByteArray) (A : Option Addr) (cp : Nat) (l : List S40) (w0 W : World) (g : Nat) (hg : W.heap[g]? = some (.cells #[.int .i64 a0, .int .i64 a1, .int .i64 a2, .int .i64 a3, .int .i64 a4, .int .i64 a5, .bool a6, .int .i64 a7, .int .i64 a8, .string a9, .int .i64 a10, .int .i64 a11, .int .i64 a12, .int .i64 a13, .string a14, .slice A l.length cp] 32 (0, 0))) (hr : Kd.C k40 w0 A l.length l) (hc : l.length ≤ cp) (hB : Below w0.heap.size w0 W) (hge : w0.heap.size ≤ g) :
    Calls Try.prog 25 #[.pointer (some ⟨g, 0, none⟩), .int .u8 116] W fun e W' => e = .returned (.bool (inr 0 1000000000 a2)) ∧ (∃ ds, W'.heap[g]? = some (.cells ds 32 (0, 0)) ∧ M32 w0 ((a0, a1, 0, a3, a4, a5, a6, a7, a8, a9, a10, a11, a12, a13, a14, l)) ds) ∧ Below w0.heap.size w0 W' ∧ KeepBut W W' g none := by
  have hcz : W.cell? ⟨g, 2, none⟩ = some (.int .i64 a2) := (blk_cell hg 2).trans rfl
  have hfz := blk_frozen hg 2
  have HG := Aside0.mk hg
  have HR := Aside0.mk hr
  have HB := Aside0.mk hB
  clear hg hr
  go_enter Try.func25, Try.ntmps25
  go_wp2_with (go_at_call 31; refine (whole_t a2 _).mono ?_; rintro e w' ⟨rfl, ⟨nd, rfl⟩⟩)
  go_ret
  refine ⟨rfl, ⟨#[.int .i64 a0, .int .i64 a1, .int .i64 0, .int .i64 a3, .int .i64 a4, .int .i64 a5, .bool a6, .int .i64 a7, .int .i64 a8, .string a9, .int .i64 a10, .int .i64 a11, .int .i64 a12, .int .i64 a13, .string a14, .slice A l.length cp], ?_, A, cp, rfl, hc, HR.out⟩, by repeat (first | exact hB | apply below_alloc | apply pw_below_drewN | apply below_drew1 | refine below_set ?_ hge), by repeat (first | exact KeepBut.refl _ _ _ | apply KeepBut.set_ | apply keep_drewN | apply keep_drew)⟩
  exact blk_put (cs := #[.int .i64 a0, .int .i64 a1, .int .i64 a2, .int .i64 a3, .int .i64 a4, .int .i64 a5, .bool a6, .int .i64 a7, .int .i64 a8, .string a9, .int .i64 a10, .int .i64 a11, .int .i64 a12, .int .i64 a13, .string a14, .slice A l.length cp]) (by first | exact blk_drewN HG.out _ | exact HG.out) 2 _ rfl

set_option maxHeartbeats 2000000 in
theorem take_97 (a0 : Int) (a1 : Int) (a2 : Int) (a3 : Int) (a4 : Int) (a5 : Int) (a6 : Bool) (a7 : Int) (a8 : Int) (a9 : ByteArray) (a10 : Int) (a11 : Int) (a12 : Int) (a13 : Int) (a14 : ByteArray) (A : Option Addr) (cp : Nat) (l : List S40) (w0 W : World) (g : Nat) (hg : W.heap[g]? = some (.cells #[.int .i64 a0, .int .i64 a1, .int .i64 a2, .int .i64 a3, .int .i64 a4, .int .i64 a5, .bool a6, .int .i64 a7, .int .i64 a8, .string a9, .int .i64 a10, .int .i64 a11, .int .i64 a12, .int .i64 a13, .string a14, .slice A l.length cp] 32 (0, 0))) (hr : Kd.C k40 w0 A l.length l) (hc : l.length ≤ cp) (hB : Below w0.heap.size w0 W) (hge : w0.heap.size ≤ g) :
    Calls Try.prog 25 #[.pointer (some ⟨g, 0, none⟩), .int .u8 97] W fun e W' => e = .returned (.bool (inr 0 80 a3)) ∧ (∃ ds, W'.heap[g]? = some (.cells ds 32 (0, 0)) ∧ M32 w0 ((a0, a1, a2, 0, a4, a5, a6, a7, a8, a9, a10, a11, a12, a13, a14, l)) ds) ∧ Below w0.heap.size w0 W' ∧ KeepBut W W' g none := by
  have hcz : W.cell? ⟨g, 3, none⟩ = some (.int .i64 a3) := (blk_cell hg 3).trans rfl
  have hfz := blk_frozen hg 3
  have HG := Aside0.mk hg
  have HR := Aside0.mk hr
  have HB := Aside0.mk hB
  clear hg hr
  go_enter Try.func25, Try.ntmps25
  go_wp2_with (go_at_call 32; refine (with_t _ _ _ _).mono ?_; rintro e w' ⟨rfl, ⟨nd, rfl⟩⟩)
  go_ret
  refine ⟨rfl, ⟨#[.int .i64 a0, .int .i64 a1, .int .i64 a2, .int .i64 0, .int .i64 a4, .int .i64 a5, .bool a6, .int .i64 a7, .int .i64 a8, .string a9, .int .i64 a10, .int .i64 a11, .int .i64 a12, .int .i64 a13, .string a14, .slice A l.length cp], ?_, A, cp, rfl, hc, HR.out⟩, by repeat (first | exact hB | apply below_alloc | apply pw_below_drewN | apply below_drew1 | refine below_set ?_ hge), by repeat (first | exact KeepBut.refl _ _ _ | apply KeepBut.set_ | apply keep_drewN | apply keep_drew)⟩
  exact blk_put (cs := #[.int .i64 a0, .int .i64 a1, .int .i64 a2, .int .i64 a3, .int .i64 a4, .int .i64 a5, .bool a6, .int .i64 a7, .int .i64 a8, .string a9, .int .i64 a10, .int .i64 a11, .int .i64 a12, .int .i64 a13, .string a14, .slice A l.length cp]) (by first | exact blk_drewN HG.out _ | exact HG.out) 3 _ rfl

set_option maxHeartbeats 2000000 in
theorem take_120 (a0 : Int) (a1 : Int) (a2 : Int) (a3 : Int) (a4 : Int) (a5 : Int) (a6 : Bool) (a7 : Int) (a8 : Int) (a9 : ByteArray) (a10 : Int) (a11 : Int) (a12 : Int) (a13 : Int) (a14 : ByteArray) (A : Option Addr) (cp : Nat) (l : List S40) (w0 W : World) (g : Nat) (hg : W.heap[g]? = some (.cells #[.int .i64 a0, .int .i64 a1, .int .i64 a2, .int .i64 a3, .int .i64 a4, .int .i64 a5, .bool a6, .int .i64 a7, .int .i64 a8, .string a9, .int .i64 a10, .int .i64 a11, .int .i64 a12, .int .i64 a13, .string a14, .slice A l.length cp] 32 (0, 0))) (hr : Kd.C k40 w0 A l.length l) (hc : l.length ≤ cp) (hB : Below w0.heap.size w0 W) (hge : w0.heap.size ≤ g) :
    Calls Try.prog 25 #[.pointer (some ⟨g, 0, none⟩), .int .u8 120] W fun e W' => e = .returned (.bool (inr 0 1000000000 a4)) ∧ (∃ ds, W'.heap[g]? = some (.cells ds 32 (0, 0)) ∧ M32 w0 ((a0, a1, a2, a3, 0, a5, a6, a7, a8, a9, a10, a11, a12, a13, a14, l)) ds) ∧ Below w0.heap.size w0 W' ∧ KeepBut W W' g none := by
  have hcz : W.cell? ⟨g, 4, none⟩ = some (.int .i64 a4) := (blk_cell hg 4).trans rfl
  have hfz := blk_frozen hg 4
  have HG := Aside0.mk hg
  have HR := Aside0.mk hr
  have HB := Aside0.mk hB
  clear hg hr
  go_enter Try.func25, Try.ntmps25
  go_wp2_with (go_at_call 31; refine (whole_t a4 _).mono ?_; rintro e w' ⟨rfl, ⟨nd, rfl⟩⟩)
  go_ret
  refine ⟨rfl, ⟨#[.int .i64 a0, .int .i64 a1, .int .i64 a2, .int .i64 a3, .int .i64 0, .int .i64 a5, .bool a6, .int .i64 a7, .int .i64 a8, .string a9, .int .i64 a10, .int .i64 a11, .int .i64 a12, .int .i64 a13, .string a14, .slice A l.length cp], ?_, A, cp, rfl, hc, HR.out⟩, by repeat (first | exact hB | apply below_alloc | apply pw_below_drewN | apply below_drew1 | refine below_set ?_ hge), by repeat (first | exact KeepBut.refl _ _ _ | apply KeepBut.set_ | apply keep_drewN | apply keep_drew)⟩
  exact blk_put (cs := #[.int .i64 a0, .int .i64 a1, .int .i64 a2, .int .i64 a3, .int .i64 a4, .int .i64 a5, .bool a6, .int .i64 a7, .int .i64 a8, .string a9, .int .i64 a10, .int .i64 a11, .int .i64 a12, .int .i64 a13, .string a14, .slice A l.length cp]) (by first | exact blk_drewN HG.out _ | exact HG.out) 4 _ rfl

set_option maxHeartbeats 2000000 in
theorem take_99 (a0 : Int) (a1 : Int) (a2 : Int) (a3 : Int) (a4 : Int) (a5 : Int) (a6 : Bool) (a7 : Int) (a8 : Int) (a9 : ByteArray) (a10 : Int) (a11 : Int) (a12 : Int) (a13 : Int) (a14 : ByteArray) (A : Option Addr) (cp : Nat) (l : List S40) (w0 W : World) (g : Nat) (hg : W.heap[g]? = some (.cells #[.int .i64 a0, .int .i64 a1, .int .i64 a2, .int .i64 a3, .int .i64 a4, .int .i64 a5, .bool a6, .int .i64 a7, .int .i64 a8, .string a9, .int .i64 a10, .int .i64 a11, .int .i64 a12, .int .i64 a13, .string a14, .slice A l.length cp] 32 (0, 0))) (hr : Kd.C k40 w0 A l.length l) (hc : l.length ≤ cp) (hB : Below w0.heap.size w0 W) (hge : w0.heap.size ≤ g) :
    Calls Try.prog 25 #[.pointer (some ⟨g, 0, none⟩), .int .u8 99] W fun e W' => e = .returned (.bool (inr 0 80 a5)) ∧ (∃ ds, W'.heap[g]? = some (.cells ds 32 (0, 0)) ∧ M32 w0 ((a0, a1, a2, a3, a4, 0, a6, a7, a8, a9, a10, a11, a12, a13, a14, l)) ds) ∧ Below w0.heap.size w0 W' ∧ KeepBut W W' g none := by
  have hcz : W.cell? ⟨g, 5, none⟩ = some (.int .i64 a5) := (blk_cell hg 5).trans rfl
  have hfz := blk_frozen hg 5
  have HG := Aside0.mk hg
  have HR := Aside0.mk hr
  have HB := Aside0.mk hB
  clear hg hr
  go_enter Try.func25, Try.ntmps25
  go_wp2_with (go_at_call 32; refine (with_t _ _ _ _).mono ?_; rintro e w' ⟨rfl, ⟨nd, rfl⟩⟩)
  go_ret
  refine ⟨rfl, ⟨#[.int .i64 a0, .int .i64 a1, .int .i64 a2, .int .i64 a3, .int .i64 a4, .int .i64 0, .bool a6, .int .i64 a7, .int .i64 a8, .string a9, .int .i64 a10, .int .i64 a11, .int .i64 a12, .int .i64 a13, .string a14, .slice A l.length cp], ?_, A, cp, rfl, hc, HR.out⟩, by repeat (first | exact hB | apply below_alloc | apply pw_below_drewN | apply below_drew1 | refine below_set ?_ hge), by repeat (first | exact KeepBut.refl _ _ _ | apply KeepBut.set_ | apply keep_drewN | apply keep_drew)⟩
  exact blk_put (cs := #[.int .i64 a0, .int .i64 a1, .int .i64 a2, .int .i64 a3, .int .i64 a4, .int .i64 a5, .bool a6, .int .i64 a7, .int .i64 a8, .string a9, .int .i64 a10, .int .i64 a11, .int .i64 a12, .int .i64 a13, .string a14, .slice A l.length cp]) (by first | exact blk_drewN HG.out _ | exact HG.out) 5 _ rfl

set_option maxHeartbeats 2000000 in
theorem take_121 (a0 : Int) (a1 : Int) (a2 : Int) (a3 : Int) (a4 : Int) (a5 : Int) (a6 : Bool) (a7 : Int) (a8 : Int) (a9 : ByteArray) (a10 : Int) (a11 : Int) (a12 : Int) (a13 : Int) (a14 : ByteArray) (A : Option Addr) (cp : Nat) (l : List S40) (w0 W : World) (g : Nat) (hg : W.heap[g]? = some (.cells #[.int .i64 a0, .int .i64 a1, .int .i64 a2, .int .i64 a3, .int .i64 a4, .int .i64 a5, .bool a6, .int .i64 a7, .int .i64 a8, .string a9, .int .i64 a10, .int .i64 a11, .int .i64 a12, .int .i64 a13, .string a14, .slice A l.length cp] 32 (0, 0))) (hr : Kd.C k40 w0 A l.length l) (hc : l.length ≤ cp) (hB : Below w0.heap.size w0 W) (hge : w0.heap.size ≤ g) :
    Calls Try.prog 25 #[.pointer (some ⟨g, 0, none⟩), .int .u8 121] W fun e W' => e = .returned (.bool (true)) ∧ (∃ ds, W'.heap[g]? = some (.cells ds 32 (0, 0)) ∧ M32 w0 ((a0, a1, a2, a3, a4, a5, false, a7, a8, a9, a10, a11, a12, a13, a14, l)) ds) ∧ Below w0.heap.size w0 W' ∧ KeepBut W W' g none := by
  have hcz : W.cell? ⟨g, 6, none⟩ = some (.bool a6) := (blk_cell hg 6).trans rfl
  have hfz := blk_frozen hg 6
  have HG := Aside0.mk hg
  have HR := Aside0.mk hr
  have HB := Aside0.mk hB
  clear hg hr
  go_enter Try.func25, Try.ntmps25
  go_wp2
  go_ret
  refine ⟨rfl, ⟨#[.int .i64 a0, .int .i64 a1, .int .i64 a2, .int .i64 a3, .int .i64 a4, .int .i64 a5, .bool false, .int .i64 a7, .int .i64 a8, .string a9, .int .i64 a10, .int .i64 a11, .int .i64 a12, .int .i64 a13, .string a14, .slice A l.length cp], ?_, A, cp, rfl, hc, HR.out⟩, by repeat (first | exact hB | apply below_alloc | apply pw_below_drewN | apply below_drew1 | refine below_set ?_ hge), by repeat (first | exact KeepBut.refl _ _ _ | apply KeepBut.set_ | apply keep_drewN | apply keep_drew)⟩
  exact blk_put (cs := #[.int .i64 a0, .int .i64 a1, .int .i64 a2, .int .i64 a3, .int .i64 a4, .int .i64 a5, .bool a6, .int .i64 a7, .int .i64 a8, .string a9, .int .i64 a10, .int .i64 a11, .int .i64 a12, .int .i64 a13, .string a14, .slice A l.length cp]) (by first | exact blk_drewN HG.out _ | exact HG.out) 6 _ rfl

set_option maxHeartbeats 2000000 in
theorem take_114 (a0 : Int) (a1 : Int) (a2 : Int) (a3 : Int) (a4 : Int) (a5 : Int) (a6 : Bool) (a7 : Int) (a8 : Int) (a9 : ByteArray) (a10 : Int) (a11 : Int) (a12 : Int) (a13 : Int) (a14 : ByteArray) (A : Option Addr) (cp : Nat) (l : List S40) (w0 W : World) (g : Nat) (hg : W.heap[g]? = some (.cells #[.int .i64 a0, .int .i64 a1, .int .i64 a2, .int .i64 a3, .int .i64 a4, .int .i64 a5, .bool a6, .int .i64 a7, .int .i64 a8, .string a9, .int .i64 a10, .int .i64 a11, .int .i64 a12, .int .i64 a13, .string a14, .slice A l.length cp] 32 (0, 0))) (hr : Kd.C k40 w0 A l.length l) (hc : l.length ≤ cp) (hB : Below w0.heap.size w0 W) (hge : w0.heap.size ≤ g) :
    Calls Try.prog 25 #[.pointer (some ⟨g, 0, none⟩), .int .u8 114] W fun e W' => e = .returned (.bool (inr 1 1000 a7)) ∧ (∃ ds, W'.heap[g]? = some (.cells ds 32 (0, 0)) ∧ M32 w0 ((a0, a1, a2, a3, a4, a5, a6, 0, a8, a9, a10, a11, a12, a13, a14, l)) ds) ∧ Below w0.heap.size w0 W' ∧ KeepBut W W' g none := by
  have hcz : W.cell? ⟨g, 7, none⟩ = some (.int .i64 a7) := (blk_cell hg 7).trans rfl
  have hfz := blk_frozen hg 7
  have HG := Aside0.mk hg
  have HR := Aside0.mk hr
  have HB := Aside0.mk hB
  clear hg hr
  go_enter Try.func25, Try.ntmps25
  go_wp2_with (go_at_call 33; refine (rel_t a7 _).mono ?_; rintro e w' ⟨rfl, ⟨nd, rfl⟩⟩)
  go_ret
  refine ⟨rfl, ⟨#[.int .i64 a0, .int .i64 a1, .int .i64 a2, .int .i64 a3, .int .i64 a4, .int .i64 a5, .bool a6, .int .i64 0, .int .i64 a8, .string a9, .int .i64 a10, .int .i64 a11, .int .i64 a12, .int .i64 a13, .string a14, .slice A l.length cp], ?_, A, cp, rfl, hc, HR.out⟩, by repeat (first | exact hB | apply below_alloc | apply pw_below_drewN | apply below_drew1 | refine below_set ?_ hge), by repeat (first | exact KeepBut.refl _ _ _ | apply KeepBut.set_ | apply keep_drewN | apply keep_drew)⟩
  exact blk_put (cs := #[.int .i64 a0, .int .i64 a1, .int .i64 a2, .int .i64 a3, .int .i64 a4, .int .i64 a5, .bool a6, .int .i64 a7, .int .i64 a8, .string a9, .int .i64 a10, .int .i64 a11, .int .i64 a12, .int .i64 a13, .string a14, .slice A l.length cp]) (by first | exact blk_drewN HG.out _ | exact HG.out) 7 _ rfl

set_option maxHeartbeats 2000000 in
theorem take_112 (a0 : Int) (a1 : Int) (a2 : Int) (a3 : Int) (a4 : Int) (a5 : Int) (a6 : Bool) (a7 : Int) (a8 : Int) (a9 : ByteArray) (a10 : Int) (a11 : Int) (a12 : Int) (a13 : Int) (a14 : ByteArray) (A : Option Addr) (cp : Nat) (l : List S40) (w0 W : World) (g : Nat) (hg : W.heap[g]? = some (.cells #[.int .i64 a0, .int .i64 a1, .int .i64 a2, .int .i64 a3, .int .i64 a4, .int .i64 a5, .bool a6, .int .i64 a7, .int .i64 a8, .string a9, .int .i64 a10, .int .i64 a11, .int .i64 a12, .int .i64 a13, .string a14, .slice A l.length cp] 32 (0, 0))) (hr : Kd.C k40 w0 A l.length l) (hc : l.length ≤ cp) (hB : Below w0.heap.size w0 W) (hge : w0.heap.size ≤ g) :
    Calls Try.prog 25 #[.pointer (some ⟨g, 0, none⟩), .int .u8 112] W fun e W' => e = .returned (.bool (inr 0 1000 a8)) ∧ (∃ ds, W'.heap[g]? = some (.cells ds 32 (0, 0)) ∧ M32 w0 ((a0, a1, a2, a3, a4, a5, a6, a7, 0, a9, a10, a11, a12, a13, a14, l)) ds) ∧ Below w0.heap.size w0 W' ∧ KeepBut W W' g none := by
  have hcz : W.cell? ⟨g, 8, none⟩ = some (.int .i64 a8) := (blk_cell hg 8).trans rfl
  have hfz := blk_frozen hg 8
  have HG := Aside0.mk hg
  have HR := Aside0.mk hr
  have HB := Aside0.mk hB
  clear hg hr
  go_enter Try.func25, Try.ntmps25
  go_wp2_with (go_at_call 34; refine (siz_t a8 _).mono ?_; rintro e w' ⟨rfl, ⟨nd, rfl⟩⟩)
  go_ret
  refine ⟨rfl, ⟨#[.int .i64 a0, .int .i64 a1, .int .i64 a2, .int .i64 a3, .int .i64 a4, .int .i64 a5, .bool a6, .int .i64 a7, .int .i64 0, .string a9, .int .i64 a10, .int .i64 a11, .int .i64 a12, .int .i64 a13, .string a14, .slice A l.length cp], ?_, A, cp, rfl, hc, HR.out⟩, by repeat (first | exact hB | apply below_alloc | apply pw_below_drewN | apply below_drew1 | refine below_set ?_ hge), by repeat (first | exact KeepBut.refl _ _ _ | apply KeepBut.set_ | apply keep_drewN | apply keep_drew)⟩
  exact blk_put (cs := #[.int .i64 a0, .int .i64 a1, .int .i64 a2, .int .i64 a3, .int .i64 a4, .int .i64 a5, .bool a6, .int .i64 a7, .int .i64 a8, .string a9, .int .i64 a10, .int .i64 a11, .int .i64 a12, .int .i64 a13, .string a14, .slice A l.length cp]) (by first | exact blk_drewN HG.out _ | exact HG.out) 8 _ rfl

set_option maxHeartbeats 2000000 in
theorem take_98 (a0 : Int) (a1 : Int) (a2 : Int) (a3 : Int) (a4 : Int) (a5 : Int) (a6 : Bool) (a7 : Int) (a8 : Int) (a9 : ByteArray) (a10 : Int) (a11 : Int) (a12 : Int) (a13 : Int) (a14 : ByteArray) (A : Option Addr) (cp : Nat) (l : List S40) (w0 W : World) (g : Nat) (hg : W.heap[g]? = some (.cells #[.int .i64 a0, .int .i64 a1, .int .i64 a2, .int .i64 a3, .int .i64 a4, .int .i64 a5, .bool a6, .int .i64 a7, .int .i64 a8, .string a9, .int .i64 a10, .int .i64 a11, .int .i64 a12, .int .i64 a13, .string a14, .slice A l.length cp] 32 (0, 0))) (hr : Kd.C k40 w0 A l.length l) (hc : l.length ≤ cp) (hB : Below w0.heap.size w0 W) (hge : w0.heap.size ≤ g) :
    Calls Try.prog 25 #[.pointer (some ⟨g, 0, none⟩), .int .u8 98] W fun e W' => e = .returned (.bool (inr 1 16 (a9.size : Int))) ∧ (∃ ds, W'.heap[g]? = some (.cells ds 32 (0, 0)) ∧ M32 w0 ((a0, a1, a2, a3, a4, a5, a6, a7, a8, (⟨#[]⟩ : ByteArray), a10, a11, a12, a13, a14, l)) ds) ∧ Below w0.heap.size w0 W' ∧ KeepBut W W' g none := by
  have hcz : W.cell? ⟨g, 9, none⟩ = some (.string a9) := (blk_cell hg 9).trans rfl
  have hfz := blk_frozen hg 9
  have HG := Aside0.mk hg
  have HR := Aside0.mk hr
  have HB := Aside0.mk hB
  clear hg hr
  go_enter Try.func25, Try.ntmps25
  go_wp2_with (go_at_call 32; refine (with_t _ _ _ _).mono ?_; rintro e w' ⟨rfl, ⟨nd, rfl⟩⟩)
  go_ret
  refine ⟨rfl, ⟨#[.int .i64 a0, .int .i64 a1, .int .i64 a2, .int .i64 a3, .int .i64 a4, .int .i64 a5, .bool a6, .int .i64 a7, .int .i64 a8, .string (⟨#[]⟩ : ByteArray), .int .i64 a10, .int .i64 a11, .int .i64 a12, .int .i64 a13, .string a14, .slice A l.length cp], ?_, A, cp, rfl, hc, HR.out⟩, by repeat (first | exact hB | apply below_alloc | apply pw_below_drewN | apply below_drew1 | refine below_set ?_ hge), by repeat (first | exact KeepBut.refl _ _ _ | apply KeepBut.set_ | apply keep_drewN | apply keep_drew)⟩
  exact blk_put (cs := #[.int .i64 a0, .int .i64 a1, .int .i64 a2, .int .i64 a3, .int .i64 a4, .int .i64 a5, .bool a6, .int .i64 a7, .int .i64 a8, .string a9, .int .i64 a10, .int .i64 a11, .int .i64 a12, .int .i64 a13, .string a14, .slice A l.length cp]) (by first | exact blk_drewN HG.out _ | exact HG.out) 9 _ rfl

set_option maxHeartbeats 2000000 in
theorem take_100 (a0 : Int) (a1 : Int) (a2 : Int) (a3 : Int) (a4 : Int) (a5 : Int) (a6 : Bool) (a7 : Int) (a8 : Int) (a9 : ByteArray) (a10 : Int) (a11 : Int) (a12 : Int) (a13 : Int) (a14 : ByteArray) (A : Option Addr) (cp : Nat) (l : List S40) (w0 W : World) (g : Nat) (hg : W.heap[g]? = some (.cells #[.int .i64 a0, .int .i64 a1, .int .i64 a2, .int .i64 a3, .int .i64 a4, .int .i64 a5, .bool a6, .int .i64 a7, .int .i64 a8, .string a9, .int .i64 a10, .int .i64 a11, .int .i64 a12, .int .i64 a13, .string a14, .slice A l.length cp] 32 (0, 0))) (hr : Kd.C k40 w0 A l.length l) (hc : l.length ≤ cp) (hB : Below w0.heap.size w0 W) (hge : w0.heap.size ≤ g) :
    Calls Try.prog 25 #[.pointer (some ⟨g, 0, none⟩), .int .u8 100] W fun e W' => e = .returned (.bool (cOk a10 a11 a12 a13 a14)) ∧ (∃ ds, W'.heap[g]? = some (.cells ds 32 (0, 0)) ∧ M32 w0 ((a0, a1, a2, a3, a4, a5, a6, a7, a8, a9, 0, 0, 0, 0, (⟨#[]⟩ : ByteArray), l)) ds) ∧ Below w0.heap.size w0 W' ∧ KeepBut W W' g none := by
  have HG := Aside0.mk hg
  have HR := Aside0.mk hr
  have HB := Aside0.mk hB
  have hcz10 : W.cell? ⟨g, 10, none⟩ = some (.int .i64 a10) := (blk_cell hg 10).trans rfl
  have hcz11 : W.cell? ⟨g, 11, none⟩ = some (.int .i64 a11) := (blk_cell hg 11).trans rfl
  have hcz12 : W.cell? ⟨g, 12, none⟩ = some (.int .i64 a12) := (blk_cell hg 12).trans rfl
  have hcz13 : W.cell? ⟨g, 13, none⟩ = some (.int .i64 a13) := (blk_cell hg 13).trans rfl
  have hcz14 : W.cell? ⟨g, 14, none⟩ = some (.string a14) := (blk_cell hg 14).trans rfl
  clear hg hr hB
  go_enter Try.func25, Try.ntmps25
  go_wp2_with (go_at_call 35; refine (icmd_t a10 a11 a12 a13 a14 _).mono ?_; rintro e w1 ⟨rfl, hb⟩; have HG1 := Aside0.mk (blk_below HG.out hb); have HB1 := Aside0.mk (below_step HB.out hb); have HK1 := Aside0.mk (KeepBut.of_below hb g none); clear hb; have k10 : w1.cell? ⟨g, 10, none⟩ = some (.int .i64 a10) := (blk_cell HG1.out 10).trans rfl; have k11 : w1.cell? ⟨g, 11, none⟩ = some (.int .i64 a11) := (blk_cell HG1.out 11).trans rfl; have k12 : w1.cell? ⟨g, 12, none⟩ = some (.int .i64 a12) := (blk_cell HG1.out 12).trans rfl; have k13 : w1.cell? ⟨g, 13, none⟩ = some (.int .i64 a13) := (blk_cell HG1.out 13).trans rfl; have k14 : w1.cell? ⟨g, 14, none⟩ = some (.string a14) := (blk_cell HG1.out 14).trans rfl; have f10 := blk_frozen HG1.out 10; have f11 := blk_frozen HG1.out 11; have f12 := blk_frozen HG1.out 12; have f13 := blk_frozen HG1.out 13; have f14 := blk_frozen HG1.out 14)
  go_ret
  refine ⟨rfl, ⟨#[.int .i64 a0, .int .i64 a1, .int .i64 a2, .int .i64 a3, .int .i64 a4, .int .i64 a5, .bool a6, .int .i64 a7, .int .i64 a8, .string a9, .int .i64 0, .int .i64 0, .int .i64 0, .int .i64 0, .string (⟨#[]⟩ : ByteArray), .slice A l.length cp], ?_, A, cp, rfl, hc, HR.out⟩, by repeat (first | exact HB1.out | refine below_set ?_ hge), by repeat (first | exact HK1.out | apply KeepBut.set_)⟩
  exact blk_put (cs := #[.int .i64 a0, .int .i64 a1, .int .i64 a2, .int .i64 a3, .int .i64 a4, .int .i64 a5, .bool a6, .int .i64 a7, .int .i64 a8, .string a9, .int .i64 0, .int .i64 0, .int .i64 0, .int .i64 0, .string a14, .slice A l.length cp]) (blk_put (cs := #[.int .i64 a0, .int .i64 a1, .int .i64 a2, .int .i64 a3, .int .i64 a4, .int .i64 a5, .bool a6, .int .i64 a7, .int .i64 a8, .string a9, .int .i64 0, .int .i64 0, .int .i64 0, .int .i64 a13, .string a14, .slice A l.length cp]) (blk_put (cs := #[.int .i64 a0, .int .i64 a1, .int .i64 a2, .int .i64 a3, .int .i64 a4, .int .i64 a5, .bool a6, .int .i64 a7, .int .i64 a8, .string a9, .int .i64 0, .int .i64 0, .int .i64 a12, .int .i64 a13, .string a14, .slice A l.length cp]) (blk_put (cs := #[.int .i64 a0, .int .i64 a1, .int .i64 a2, .int .i64 a3, .int .i64 a4, .int .i64 a5, .bool a6, .int .i64 a7, .int .i64 a8, .string a9, .int .i64 0, .int .i64 a11, .int .i64 a12, .int .i64 a13, .string a14, .slice A l.length cp]) (blk_put (cs := #[.int .i64 a0, .int .i64 a1, .int .i64 a2, .int .i64 a3, .int .i64 a4, .int .i64 a5, .bool a6, .int .i64 a7, .int .i64 a8, .string a9, .int .i64 a10, .int .i64 a11, .int .i64 a12, .int .i64 a13, .string a14, .slice A l.length cp]) HG1.out 10 _ rfl) 11 _ rfl) 12 _ rfl) 13 _ rfl) 14 _ rfl

set_option maxHeartbeats 2000000 in
theorem take_else (c : Int) (h102 : (c == 102) = false) (h116 : (c == 116) = false) (h97 : (c == 97) = false) (h120 : (c == 120) = false) (h99 : (c == 99) = false) (h121 : (c == 121) = false) (h114 : (c == 114) = false) (h112 : (c == 112) = false) (h98 : (c == 98) = false) (h100 : (c == 100) = false) (a0 : Int) (a1 : Int) (a2 : Int) (a3 : Int) (a4 : Int) (a5 : Int) (a6 : Bool) (a7 : Int) (a8 : Int) (a9 : ByteArray) (a10 : Int) (a11 : Int) (a12 : Int) (a13 : Int) (a14 : ByteArray) (A : Option Addr) (cp : Nat) (l : List S40) (w0 W : World) (g : Nat) (hg : W.heap[g]? = some (.cells #[.int .i64 a0, .int .i64 a1, .int .i64 a2, .int .i64 a3, .int .i64 a4, .int .i64 a5, .bool a6, .int .i64 a7, .int .i64 a8, .string a9, .int .i64 a10, .int .i64 a11, .int .i64 a12, .int .i64 a13, .string a14, .slice A l.length cp] 32 (0, 0))) (hr : Kd.C k40 w0 A l.length l) (hc : l.length ≤ cp) (hB : Below w0.heap.size w0 W) (hge : w0.heap.size ≤ g) :
    Calls Try.prog 25 #[.pointer (some ⟨g, 0, none⟩), .int .u8 c] W fun e W' => e = .returned (.bool (decide ((l.length : Int) ≤ 6) && l.all entT)) ∧ (∃ ds, W'.heap[g]? = some (.cells ds 32 (0, 0)) ∧ M32 w0 ((a0, a1, a2, a3, a4, a5, a6, a7, a8, a9, a10, a11, a12, a13, a14, [])) ds) ∧ Below w0.heap.size w0 W' ∧ KeepBut W W' g none := by
  have hcz15 : W.cell? ⟨g, 15, none⟩ = some (.slice A l.length cp) := (blk_cell hg 15).trans rfl
  have HG := Aside0.mk hg
  have HR := Aside0.mk hr
  have HB := Aside0.mk hB
  clear hg hr hB
  go_enter Try.func25, Try.ntmps25
  go_wp2_with (go_at_call 36; refine (ents_t A cp l _ (Kd.C_below HR.out HB.out) hc).mono ?_; rintro e w1 ⟨rfl, hb⟩; have HG1 := Aside0.mk (blk_below HG.out hb); have HB1 := Aside0.mk (below_step HB.out hb); have HK1 := Aside0.mk (KeepBut.of_below hb g none); clear hb; have k15 : w1.cell? ⟨g, 15, none⟩ = some (.slice A l.length cp) := (blk_cell HG1.out 15).trans rfl; have f15 := blk_frozen HG1.out 15)
  go_ret
  refine ⟨rfl, ⟨#[.int .i64 a0, .int .i64 a1, .int .i64 a2, .int .i64 a3, .int .i64 a4, .int .i64 a5, .bool a6, .int .i64 a7, .int .i64 a8, .string a9, .int .i64 a10, .int .i64 a11, .int .i64 a12, .int .i64 a13, .string a14, .slice none 0 0], ?_, none, 0, rfl, Nat.le_refl _, Kd.C_nil _ _⟩, by repeat (first | exact HB1.out | refine below_set ?_ hge), by repeat (first | exact HK1.out | apply KeepBut.set_)⟩
  exact blk_put (cs := #[.int .i64 a0, .int .i64 a1, .int .i64 a2, .int .i64 a3, .int .i64 a4, .int .i64 a5, .bool a6, .int .i64 a7, .int .i64 a8, .string a9, .int .i64 a10, .int .i64 a11, .int .i64 a12, .int .i64 a13, .string a14, .slice A l.length cp]) HG1.out 15 _ rfl

theorem take_t (c : Int) (x : X32) (cs : Array Value) (w0 W : World) (g : Nat) (hg : W.heap[g]? = some (.cells cs 32 (0, 0))) (hm : M32 w0 x cs) (hB : Below w0.heap.size w0 W) (hge : w0.heap.size ≤ g) :
    Calls Try.prog 25 #[.pointer (some ⟨g, 0, none⟩), .int .u8 c] W fun e W' => e = .returned (.bool (tkB c x)) ∧ (∃ ds, W'.heap[g]? = some (.cells ds 32 (0, 0)) ∧ M32 w0 (tkX c x) ds) ∧ Below w0.heap.size w0 W' ∧ KeepBut W W' g none := by
  obtain ⟨a0, a1, a2, a3, a4, a5, a6, a7, a8, a9, a10, a11, a12, a13, a14, l⟩ := x
  obtain ⟨A, cp, rfl, hc, hr⟩ := hm
  by_cases h102 : c = 102
  · subst h102
    exact take_102 a0 a1 a2 a3 a4 a5 a6 a7 a8 a9 a10 a11 a12 a13 a14 A cp l w0 W g hg hr hc hB hge
  by_cases h116 : c = 116
  · subst h116
    exact take_116 a0 a1 a2 a3 a4 a5 a6 a7 a8 a9 a10 a11 a12 a13 a14 A cp l w0 W g hg hr hc hB hge
  by_cases h97 : c = 97
  · subst h97
    exact take_97 a0 a1 a2 a3 a4 a5 a6 a7 a8 a9 a10 a11 a12 a13 a14 A cp l w0 W g hg hr hc hB hge
  by_cases h120 : c = 120
  · subst h120
    exact take_120 a0 a1 a2 a3 a4 a5 a6 a7 a8 a9 a10 a11 a12 a13 a14 A cp l w0 W g hg hr hc hB hge
  by_cases h99 : c = 99
  · subst h99
    exact take_99 a0 a1 a2 a3 a4 a5 a6 a7 a8 a9 a10 a11 a12 a13 a14 A cp l w0 W g hg hr hc hB hge
  by_cases h121 : c = 121
  · subst h121
    exact take_121 a0 a1 a2 a3 a4 a5 a6 a7 a8 a9 a10 a11 a12 a13 a14 A cp l w0 W g hg hr hc hB hge
  by_cases h114 : c = 114
  · subst h114
    exact take_114 a0 a1 a2 a3 a4 a5 a6 a7 a8 a9 a10 a11 a12 a13 a14 A cp l w0 W g hg hr hc hB hge
  by_cases h112 : c = 112
  · subst h112
    exact take_112 a0 a1 a2 a3 a4 a5 a6 a7 a8 a9 a10 a11 a12 a13 a14 A cp l w0 W g hg hr hc hB hge
  by_cases h98 : c = 98
  · subst h98
    exact take_98 a0 a1 a2 a3 a4 a5 a6 a7 a8 a9 a10 a11 a12 a13 a14 A cp l w0 W g hg hr hc hB hge
  by_cases h100 : c = 100
  · subst h100
    exact take_100 a0 a1 a2 a3 a4 a5 a6 a7 a8 a9 a10 a11 a12 a13 a14 A cp l w0 W g hg hr hc hB hge
  unfold tkB tkX
  simp only [h102, h116, h97, h120, h99, h121, h114, h112, h98, h100, if_false]
  exact take_else c (beq_eq_false_iff_ne.mpr h102) (beq_eq_false_iff_ne.mpr h116) (beq_eq_false_iff_ne.mpr h97) (beq_eq_false_iff_ne.mpr h120) (beq_eq_false_iff_ne.mpr h99) (beq_eq_false_iff_ne.mpr h121) (beq_eq_false_iff_ne.mpr h114) (beq_eq_false_iff_ne.mpr h112) (beq_eq_false_iff_ne.mpr h98) (beq_eq_false_iff_ne.mpr h100) a0 a1 a2 a3 a4 a5 a6 a7 a8 a9 a10 a11 a12 a13 a14 A cp l w0 W g hg hr hc hB hge

def runF : List UInt8 → X32 → Option X32
  | [], x => some x
  | b :: bs, x => if tkB (b.toNat : Int) x = true then runF bs (tkX (b.toNat : Int) x) else none
theorem fldS_size (a : Int) : (fldS a).size ≤ 6 := by
  unfold fldS
  repeat' split
  all_goals decide
noncomputable def fitsI (x : X32) : Bool := match runF (fldS x.1).data.toList x with
  | none => false
  | some y => !(fldS x.1).toList.isEmpty && smB y (x.1, 0, 0, 0, 0, 0, false, 0, 0, (⟨#[]⟩ : ByteArray), 0, 0, 0, 0, (⟨#[]⟩ : ByteArray), ([] : List S40))
theorem M32.c0 {w : World} {x : X32} {cs : Array Value} (h : M32 w x cs) : cs[0]? = some (.int .i64 x.1) := by
  obtain ⟨A, c, rfl, hc, hr⟩ := h
  rfl
theorem tkX_len (c : Int) (x : X32) : (tkX c x).2.2.2.2.2.2.2.2.2.2.2.2.2.2.2.length ≤ x.2.2.2.2.2.2.2.2.2.2.2.2.2.2.2.length := by
  obtain ⟨a0, a1, a2, a3, a4, a5, a6, a7, a8, a9, a10, a11, a12, a13, a14, l⟩ := x
  unfold tkX
  simp only []
  repeat' split
  all_goals simp
set_option maxHeartbeats 8000000 in
set_option maxRecDepth 100000 in
theorem impl_MsgFits.t (x : X32) (cs : Array Value) (w : World) (hm : M32 w x cs) (hl : x.2.2.2.2.2.2.2.2.2.2.2.2.2.2.2.length ≤ 1048576) :
    Calls Try.prog 11 #[.agg cs] w fun e w' => e = .returned (.bool (fitsI x)) ∧ Below w.heap.size w w' := by
  have X0 := Aside0.mk hm
  have Z0 := Aside0.mk hm.sz
  have HL := Aside0.mk hl
  clear hm hl
  go_enter Try.func11, Try.ntmps11
  go_upto_region 3 with (first
    | ((with_reducible refine gate_dst (N := 1) rfl ?_); refine box_event ?hg (N := 1) ?hd (cs := cs) (t := 32) ?hr ?_; (case hd => rfl); (case hg => rfl); (case hr => first | (go_simp; done) | (go_simp; rfl)); intro b1 hg w1 hbox hb; have BK := Aside0.mk hbox; have HB := Aside0.mk hb; clear hg hbox hb; have hcz0 : w1.cell? ⟨b1, 0, none⟩ = some (.int .i64 x.1) := (blk_cell BK.out 0).trans X0.out.c0)
    | ((with_reducible refine gate_callee (f := 24) rfl ?_); refine goesL_ (some 8) rfl rfl Try.func24 (by kernel_rfl) rfl #[.int .i64 x.1] rfl (by (try simp only [List.map_toArray, List.map_cons, List.map_nil]); first | done | rfl) ?_; refine (fld_t x.1 _).mono ?_; rintro e w2 ⟨rfl, ⟨nd, rfl⟩⟩; refine ⟨_, rfl, ?_⟩; have BK2 := Aside0.mk (blk_drewN BK.out nd); have HB2 := Aside0.mk (pw_below_drewN HB.out nd); clear BK HB hcz0; have BK := BK2; have HB := HB2; clear BK2 HB2; generalize World.drewN _ nd = w2 at BK HB ⊢; (try simp only [Act.put, List.setIfInBounds_toArray, List.set_cons_zero, List.set_cons_succ]))
    | (refine wpList_load_row rfl 32 (.tmp 1) rfl b1 rfl 32 cs (0, 0) _ BK.out Try.underlying32 rfl Z0.out ?_; (try simp only [Act.put, List.setIfInBounds_toArray, List.set_cons_zero, List.set_cons_succ]))
    | ((with_reducible refine gate_dst (N := 4) rfl ?_); refine box_event ?hg (N := 4) ?hd (cs := #[.int .i64 0, .int .i64 0, .int .i64 0, .int .i64 0, .int .i64 0, .int .i64 0, .bool false, .int .i64 0, .int .i64 0, .string ⟨#[]⟩, .int .i64 0, .int .i64 0, .int .i64 0, .int .i64 0, .string ⟨#[]⟩, .slice none 0 0]) (t := 32) ?hr ?_; (case hd => rfl); (case hg => rfl); (case hr => first | (go_simp; done) | (go_simp; rfl)); intro g4 hg wq hbox hb; have P4 := Aside0.mk (And.intro hg (And.intro hbox hb)); clear hg hbox hb; (try simp only [Act.put, List.setIfInBounds_toArray, List.set_cons_zero, List.set_cons_succ]))
    | (refine wpList_store_row rfl 32 (.tmp 4) (.tmp 9) rfl g4 cs rfl rfl 32 _ P4.out.2.1 X0.out.sz X0.out.size.symm X0.out.one ?_; have sn := store_new (ds := cs) P4.out.1 P4.out.2.1 P4.out.2.2; have K4 := Aside0.mk sn.2; have HN := Aside0.mk (show b1 ≠ g4 from by rw [P4.out.1]; exact Nat.ne_of_lt (blk_lt BK.out)); have HG4 := Aside0.mk (show w.heap.size ≤ g4 from by rw [P4.out.1]; exact HB.out.size); have BK_ := Aside0.mk (blk_below BK.out sn.1); have HB_ := Aside0.mk (below_step HB.out sn.1); clear BK HB; have BK := BK_; have HB := HB_; clear BK_ HB_; clear sn P4; generalize World.setRow _ g4 cs = w4 at BK HB K4 ⊢; (try simp only [Act.put, List.setIfInBounds_toArray, List.set_cons_zero, List.set_cons_succ])))
  have hsz : (fldS x.1).size ≤ 6 := fldS_size x.1
  go_wp2
  go_loopg [5, 12] (fldS x.1).size (fun gg _ s12 wr => ∃ (i : Nat) (y : X32) (ds : Array Value), i ≤ (fldS x.1).size ∧ (fldS x.1).size - i ≤ gg ∧ s12 = .int .i64 i ∧ Aside0 (wr.heap[g4]? = some (.cells ds 32 (0, 0))) ∧ Aside0 (M32 w y ds) ∧ Aside0 (wr.heap[b1]? = some (.cells cs 32 (0, 0))) ∧ Aside0 (Below w.heap.size w wr) ∧ Aside0 (runF ((fldS x.1).data.toList.drop i) y = runF (fldS x.1).data.toList x) ∧ Aside0 (y.2.2.2.2.2.2.2.2.2.2.2.2.2.2.2.length ≤ 1048576))
  case atStart => exact ⟨0, x, cs, Nat.zero_le _, by omega, rfl, K4, X0, BK, HB, ⟨rfl⟩, HL⟩
  case round =>
    clear K4 BK HB HL
    obtain ⟨i, y, ds, hi, hgg, rfl, K4, Y, BK, HB, AL, HL⟩ := hrel
    by_cases hlt : i < (fldS x.1).size
    · have hltz : (i : Int) < ((fldS x.1).size : Int) := by omega
      have D : Aside0 (runF ((fldS x.1).data.toList.drop i) y = if tkB ((fldS x.1)[i].toNat : Int) y = true then runF ((fldS x.1).data.toList.drop (i + 1)) (tkX ((fldS x.1)[i].toNat : Int) y) else none) := ⟨by
        rw [List.drop_eq_getElem_cons (by simpa using hlt)]
        rfl⟩
      have hcall := fun W hg hB => take_t ((fldS x.1)[i].toNat : Int) y ds w W g4 hg Y.out hB HG4.out
      have LX := Aside0.mk (tkX_len ((fldS x.1)[i].toNat : Int) y)
      cases hq : tkB ((fldS x.1)[i].toNat : Int) y with
      | false =>
        rw [hq] at D
        simp only [hq] at hcall
        go_wp2_with (go_at_call 25; refine (hcall _ K4.out HB.out).mono ?_; rintro e w' ⟨rfl, hds, hb', hk⟩)
        go_ret
        exact ⟨by rw [fitsI, ← AL.out, D.out]; rfl, hb'⟩
      | true =>
        rw [hq] at D
        simp only [hq] at hcall
        go_wp2_with (go_at_call 25; refine (hcall _ K4.out HB.out).mono ?_; rintro e w' ⟨rfl, ⟨ds', hg', hm'⟩, hb', hk⟩)
        go_roundg ((fldS x.1).size - (i + 1))
        case measure => omega
        case rel => exact ⟨i + 1, _, ds', by omega, by omega, by go_num, ⟨hg'⟩, ⟨hm'⟩, ⟨hk.blk BK.out HN.out (by simp)⟩, ⟨hb'⟩, ⟨by rw [← AL.out, D.out]; rfl⟩, ⟨Nat.le_trans LX.out HL.out⟩⟩
    · have hltz : ¬ (i : Int) < ((fldS x.1).size : Int) := by omega
      obtain rfl : i = (fldS x.1).size := by omega
      have AE : Aside0 (runF (fldS x.1).data.toList x = some y) := ⟨by rw [← AL.out, List.drop_eq_nil_of_le (by simp)]; rfl⟩
      have hcz0 : wr.cell? ⟨b1, 0, none⟩ = some (.int .i64 x.1) := (blk_cell BK.out 0).trans X0.out.c0
      cases he : (fldS x.1).toList.isEmpty with
      | true =>
        have he2 : (!(fldS x.1).toList.isEmpty) = false := by rw [he]; rfl
        go_wp2
        go_ret
        exact ⟨by rw [fitsI, AE.out]; simp [he], HB.out⟩
      | false =>
        have he2 : (!(fldS x.1).toList.isEmpty) = true := by rw [he]; rfl
        go_wp2_with (first
          | ((with_reducible refine gate_dst (N := 24) rfl ?_); (try (refine gate_guard (by rfl) ?_; dsimp only)); refine wpList_load_row rfl 32 (.tmp 4) rfl g4 rfl 32 ds (0, 0) _ K4.out Try.underlying32 rfl Y.out.sz ?_; (try simp only [Act.put, List.setIfInBounds_toArray, List.set_cons_zero, List.set_cons_succ]))
          | (go_at_call 8; refine (im_t y (x.1, 0, 0, 0, 0, 0, false, 0, 0, (⟨#[]⟩ : ByteArray), 0, 0, 0, 0, (⟨#[]⟩ : ByteArray), ([] : List S40)) ds _ _ (Y.out.below HB.out) ⟨none, 0, rfl, Nat.le_refl _, Kd.C_nil _ _⟩ HL.out).mono ?_; rintro e w' ⟨rfl, hb'⟩))
        go_ret
        exact ⟨by rw [fitsI, AE.out]; simp [he], below_step HB.out hb'⟩

end Go.Proofs.Ytngilepbpfdigaa.QFnExactMsgFits
