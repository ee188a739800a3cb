/- The law FnSizes answers true for every slice of bytes. No condition. -/
import Derived.Test.YtkjfcgnhpalhnaaQFnSizesx2
namespace Go.Proofs.Ytkjfcgnhpalhnaa.Pure
open Go.RowKit Go.Proofs.Ytkjfcgnhpalhnaa.QFnSizes Go.Proofs.YtkjfcgnhpalhnaaW.PrintWords Go.Proofs.YtkjfcgnhpalhnaaW.PrintLast
set_option linter.unusedVariables false
set_option linter.unusedSimpArgs false

theorem w64 (n : Int) (h0 : -9223372036854775808 ≤ n) (h1 : n ≤ 9223372036854775807) : wrap64 n = n := by unfold wrap64; omega
theorem tmn {a : Int} (b : Int) (h : 0 ≤ a) : Int.tmod a b = a % b := Int.tmod_eq_emod_of_nonneg h
theorem wfi {x : Int} (h : (Lit.int .i64 x).wf = true) : -9223372036854775808 ≤ x ∧ x ≤ 9223372036854775807 := by
  simp [Lit.wf, IntKind.min, IntKind.max, IntKind.signed, IntKind.bits] at h
  omega
theorem wf8 {x : Int} (h : (Lit.int .u8 x).wf = true) : 0 ≤ x ∧ x ≤ 255 := by
  simp [Lit.wf, IntKind.min, IntKind.max, IntKind.signed, IntKind.bits] at h
  omega
theorem evc {α : Type} {g : Nat → Option α} {r : α} (h : ∀ k, g k = some r) : Ev g r := ⟨0, fun k _ => h k⟩
theorem getD_mem {α : Type} (l : List α) (n : Nat) (z : α) (h : n < l.length) : l.getD n z ∈ l := by
  rw [List.getD_eq_getElem?_getD, List.getElem?_eq_getElem h]
  exact List.getElem_mem h
theorem ex_step {α : Type} {g f : Nat → Option α} (h : ∀ k, g (k + 1) = f k) (e : ∃ r, Ev f r) : ∃ r, Ev g r := by
  obtain ⟨r, e⟩ := e
  exact ⟨r, Ev.step h e⟩
theorem ex_bind {α β : Type} {g : Nat → Option α} {f : Nat → α → Option β} {a : α} (h : Ev g a) (e : ∃ r, Ev (fun n => f n a) r) : ∃ r, Ev (fun n => (g n).bind (f n)) r := by
  obtain ⟨r, e⟩ := e
  exact ⟨r, Ev.bind h e⟩

theorem up_ind (n : Nat) (P : Nat → Prop) (he : P n) (hs : ∀ i, i < n → P (i + 1) → P i) (i : Nat) (h : i ≤ n) : P i := by
  have key : ∀ (d i : Nat), i + d = n → P i := by
    intro d
    induction d with
    | zero => intro i h; obtain rfl : i = n := by omega
              exact he
    | succ d ih => intro i h; exact hs i (by omega) (ih (i + 1) (by omega))
  exact key (n - i) i (by omega)
theorem eq_fill {β : Type} (y : Nat → β) (n : Nat) (ys : List β) (hl : ys.length = n) (h : ∀ j, j < n → ys[j]? = some (y j)) : ys = (List.range n).map y := by
  apply List.ext_getElem?
  intro j
  by_cases hj : j < n
  · rw [h j hj]; simp [hj]
  · rw [List.getElem?_eq_none (by omega), List.getElem?_eq_none (by simp; omega)]
theorem map_rd {α β : Type} (l : List α) (z : α) (f : α → β) : (List.range l.length).map (fun i => f (l.getD i z)) = l.map f := by
  apply List.ext_getElem?
  intro j
  by_cases hj : j < l.length
  · simp [hj, List.getD]
  · rw [List.getElem?_eq_none (by simp; omega), List.getElem?_eq_none (by simp; omega)]
theorem set_fill {β : Type} (y : Nat → β) (i : Nat) (ys : List β) (h : ∀ j, j < i → ys[j]? = some (y j)) (hi : i < ys.length) : ∀ j, j < i + 1 → (ys.set i (y i))[j]? = some (y j) := by
  intro j hj
  by_cases e : j = i
  · subst e; rw [List.getElem?_set_self hi]
  · rw [List.getElem?_set_ne (by omega)]; exact h j (by omega)
theorem inc (i : Nat) (h : i < 1000000000000) : wrap64 ((i : Int) + 1) = ((i + 1 : Nat) : Int) := by rw [w64 _ (by omega) (by omega)]; omega

theorem bal (s : ByteArray) : s.toList = s.data.toList := ByteArray.toList_eq s
theorem bal_nil (s : ByteArray) : s.toList = ([] : List UInt8) ↔ s.size = 0 := by
  rw [bal, ← data_length]
  exact List.length_eq_zero_iff.symm

theorem i_within (n a b : Int) : impl_within.f n a b = some (decide (a ≤ n ∧ n ≤ b)) := by
  unfold impl_within.f
  by_cases h : n ≥ a
  · rw [if_pos h]; simp [show a ≤ n from h]
  · rw [if_neg h]; simp [show ¬ a ≤ n from h]

theorem s_In (n a b : Int) : spec_l1In.f n a b = some (decide (a ≤ n ∧ n ≤ b)) := by
  unfold spec_l1In.f
  by_cases h : n ≥ a
  · rw [if_pos h]; simp [show a ≤ n from h]
  · rw [if_neg h]; simp [show ¬ a ≤ n from h]

theorem s_PartsOf (n : Int) : spec_PartsOf.f n = some (if 0 ≤ n ∧ n ≤ 1000 then (n + 15) / 16 else -1) := by
  unfold spec_PartsOf.f
  rw [s_In]
  simp only [Option.bind_some]
  by_cases h : 0 ≤ n ∧ n ≤ 1000
  · rw [w64 (n + 16) (by omega) (by omega), w64 (n + 16 - 1) (by omega) (by omega)]
    have e : Int.tdiv (n + 16 - 1) 16 = (n + 15) / 16 := by rw [Int.tdiv_eq_ediv_of_nonneg (by omega)]; omega
    rw [e, w64 _ (by omega) (by omega)]
    simp [h]
  · simp [h]
theorem i_PartsOf (n : Int) : impl_PartsOf.f n = some (if 0 ≤ n ∧ n ≤ 1000 then (n + 15) / 16 else -1) := by
  unfold impl_PartsOf.f impl_isSize.f
  rw [i_within]
  simp only [Option.bind_some]
  by_cases h : 0 ≤ n ∧ n ≤ 1000
  · rw [w64 (n + 16) (by omega) (by omega), w64 (n + 16 - 1) (by omega) (by omega)]
    have e : Int.tdiv (n + 16 - 1) 16 = (n + 15) / 16 := by rw [Int.tdiv_eq_ediv_of_nonneg (by omega)]; omega
    rw [e, w64 _ (by omega) (by omega)]
    simp [h]
  · simp [h]

/-- Part i of a text: what both tell. -/
def partOf (s : ByteArray) (i : Int) : ByteArray × Bool :=
  if (s.size : Int) ≤ 1000 ∧ 0 ≤ i ∧ i * 16 < (s.size : Int) then (s.extract (i * 16).toNat (min ((i + 1) * 16) (s.size : Int)).toNat, true) else (⟨#[]⟩, false)
theorem s_PartOf (s : ByteArray) (i : Int) (hi : -9223372036854775808 ≤ i ∧ i ≤ 9223372036854775807) (hs : s.size ≤ 140737488351232) : spec_PartOf.f s i = some (partOf s i) := by
  unfold spec_PartOf.f partOf
  by_cases h : (s.size : Int) > 1000
  · rw [if_pos h, if_neg (by omega)]
  · rw [if_neg h, s_PartsOf]
    simp only [Option.bind_some]
    rw [if_pos ⟨by omega, by omega⟩, s_In, w64 _ (by omega) (by omega)]
    simp only [Option.bind_some]
    by_cases hr : 0 ≤ i ∧ i ≤ ((s.size : Int) + 15) / 16 - 1
    · simp only [decide_eq_true hr, if_true]
      unfold spec_l1Min.f
      rw [w64 (i + 1) (by omega) (by omega), w64 ((i + 1) * 16) (by omega) (by omega), w64 (i * 16) (by omega) (by omega)]
      rw [if_pos (show (s.size : Int) ≤ 1000 ∧ 0 ≤ i ∧ i * 16 < (s.size : Int) by omega)]
      by_cases hc : (i + 1) * 16 < (s.size : Int)
      · rw [if_pos hc]
        simp only [Option.bind_some]
        rw [if_pos (by omega), if_pos (by omega), if_pos (by omega), Int.min_eq_left (by omega)]
      · rw [if_neg hc]
        simp only [Option.bind_some]
        rw [if_pos (by omega), if_pos (by omega), if_pos (by omega), Int.min_eq_right (by omega)]
    · simp only [decide_eq_false hr, Bool.false_eq_true, if_false]
      rw [if_neg (by omega)]
theorem i_PartOf (s : ByteArray) (i : Int) (hi : -9223372036854775808 ≤ i ∧ i ≤ 9223372036854775807) (hs : s.size ≤ 140737488351232) : impl_PartOf.f s i = some (partOf s i) := by
  unfold impl_PartOf.f partOf
  rw [i_PartsOf]
  simp only [Option.bind_some]
  by_cases h : (s.size : Int) > 1000
  · rw [if_neg (show ¬ (0 ≤ (s.size : Int) ∧ (s.size : Int) ≤ 1000) by omega), i_within, w64 (-1 - 1) (by omega) (by omega)]
    simp only [Option.bind_some, decide_eq_false (show ¬ (0 ≤ i ∧ i ≤ -1 - 1) by omega), Bool.false_eq_true, if_false]
    rw [if_neg (by omega)]
  · rw [if_pos ⟨by omega, by omega⟩, i_within, w64 _ (by omega) (by omega)]
    simp only [Option.bind_some]
    by_cases hr : 0 ≤ i ∧ i ≤ ((s.size : Int) + 15) / 16 - 1
    · simp only [decide_eq_true hr, if_true]
      unfold impl_partLong.f
      simp only [Option.bind_some]
      rw [w64 (i * 16) (by omega) (by omega), w64 ((s.size : Int) - i * 16) (by omega) (by omega)]
      have hm : mn 16 ((s.size : Int) - i * 16) = min 16 ((s.size : Int) - i * 16) := by unfold mn; omega
      rw [hm, w64 (i * 16 + min 16 ((s.size : Int) - i * 16)) (by omega) (by omega)]
      rw [if_pos (by omega), if_pos (by omega), if_pos (by omega), if_pos (show (s.size : Int) ≤ 1000 ∧ 0 ≤ i ∧ i * 16 < (s.size : Int) by omega)]
      rw [show i * 16 + min 16 ((s.size : Int) - i * 16) = min ((i + 1) * 16) (s.size : Int) by omega]
    · simp only [decide_eq_false hr, Bool.false_eq_true, if_false]
      rw [if_neg (by omega)]

theorem and_mask (x : Int) (m : Nat) (hm : m < 1152921504606846976) : 0 ≤ Go.bits .and .i64 x (m : Int) ∧ Go.bits .and .i64 x (m : Int) ≤ (m : Int) := by
  have hb : ((BitVec.ofInt 64 x) &&& (BitVec.ofInt 64 (m : Int))).toNat ≤ m := by
    rw [BitVec.toNat_and]
    refine Nat.le_trans Nat.and_le_right ?_
    rw [BitVec.ofInt_natCast, BitVec.toNat_ofNat]
    exact Nat.mod_le _ _
  have e : Go.bits .and .i64 x (m : Int) = (((BitVec.ofInt 64 x) &&& (BitVec.ofInt 64 (m : Int))).toNat : Int) := by
    show IntKind.i64.wrap _ = _
    rw [Go.IntKind.wrap_i64]
    have := hb
    show ((((BitVec.ofInt 64 x) &&& (BitVec.ofInt 64 (m : Int))).toNat : Int) + 9223372036854775808) % 18446744073709551616 - 9223372036854775808 = _
    omega
  rw [e]; omega
/-- A reader of draws over b: its place. -/
def Cur (b : List Int) (i : Int) : Prop := 0 ≤ i ∧ i ≤ (b.length : Int) ∧ b.length ≤ 1048576
theorem d_byte {b : List Int} {i h : Int} (c : Cur b i) : ∃ r i' h', spec_l1Byte.f b i h = some (r, i', h') ∧ 0 ≤ r ∧ r ≤ 255 ∧ Cur b i' := by
  obtain ⟨h0, h1, h2⟩ := c
  unfold spec_l1Byte.f
  by_cases hl : i < (b.length : Int)
  · rw [if_pos hl, if_pos h0]
    have := and_mask (wrap64 ((Go.bits .and .i64 (Go.bits .xor .i64 ((wrap64 ((wrap64 (h * 6364136223846793005)) + 1442695040888963407)) / 8589934592) ((wrap64 ((wrap64 (h * 6364136223846793005)) + 1442695040888963407)) / 35184372088832)) 255) + (wrap64 (rd b i)))) 255 (by omega)
    exact ⟨_, _, _, rfl, this.1, this.2, by rw [w64 (i + 1) (by omega) (by omega)]; exact ⟨by omega, by omega, h2⟩⟩
  · rw [if_neg hl]
    have := and_mask (Go.bits .xor .i64 ((wrap64 ((wrap64 (h * 6364136223846793005)) + 1442695040888963407)) / 8589934592) ((wrap64 ((wrap64 (h * 6364136223846793005)) + 1442695040888963407)) / 35184372088832)) 255 (by omega)
    exact ⟨_, _, _, rfl, this.1, this.2, h0, h1, h2⟩
theorem d_below {b : List Int} {i h : Int} (c : Cur b i) (n : Int) (hn : n ≤ 4294967296) : ∃ r i' h', spec_l1Below.f b i h n = some (r, i', h') ∧ 0 ≤ r ∧ (0 < n → r < n) ∧ (n ≤ 0 → r = 0) ∧ Cur b i' := by
  unfold spec_l1Below.f
  by_cases h0 : n ≤ 0
  · rw [if_pos h0]; exact ⟨0, i, h, rfl, Int.le_refl _, fun h => by omega, fun _ => rfl, c⟩
  · rw [if_neg h0]
    by_cases h1 : n ≤ 256
    · rw [if_pos h1]
      obtain ⟨r, i', h', e, r0, r1, c'⟩ := d_byte (h := h) c
      rw [e]
      simp only [Option.bind_some, if_neg (show ¬ n = 0 by omega)]
      rw [tmn n r0]
      exact ⟨_, _, _, rfl, Int.emod_nonneg _ (by omega), fun _ => Int.emod_lt_of_pos _ (by omega), fun h => absurd h h0, c'⟩
    · rw [if_neg h1]
      obtain ⟨x, i1, g1, e1, x0, x1, c1⟩ := d_byte (h := h) c
      rw [e1]
      simp only [Option.bind_some]
      obtain ⟨y, i2, g2, e2, y0, y1, c2⟩ := d_byte (h := g1) c1
      rw [e2]
      simp only [Option.bind_some]
      obtain ⟨z, i3, g3, e3, z0, z1, c3⟩ := d_byte (h := g2) c2
      rw [e3]
      simp only [Option.bind_some]
      obtain ⟨v, i4, g4, e4, v0, v1, c4⟩ := d_byte (h := g3) c3
      rw [e4]
      simp only [Option.bind_some, if_neg (show ¬ n = 0 by omega)]
      rw [w64 (x * 16777216) (by omega) (by omega), w64 (y * 65536) (by omega) (by omega), w64 (x * 16777216 + y * 65536) (by omega) (by omega), w64 (z * 256) (by omega) (by omega), w64 (x * 16777216 + y * 65536 + z * 256) (by omega) (by omega), w64 (x * 16777216 + y * 65536 + z * 256 + v) (by omega) (by omega), tmn n (by omega)]
      exact ⟨_, _, _, rfl, Int.emod_nonneg _ (by omega), fun _ => Int.emod_lt_of_pos _ (by omega), fun h => absurd h h0, c4⟩
theorem d_new0 (b : List Int) (hb : b.length ≤ 1048576) : ∀ (d : Nat) (i h : Int), i + d = 4000 → 0 ≤ i → ∃ h', Ev (fun k => spec_l1New.l0 k b h i) (b, 0, h') := by
  intro d
  induction d with
  | zero =>
    intro i h h1 h2
    refine ⟨h, Ev.step (fun k => by rw [spec_l1New.l0]) ?_⟩
    by_cases hl : i < (b.length : Int)
    · simp only [if_pos hl, if_neg (show ¬ i < 4000 by omega)]; exact Ev.now _
    · simp only [if_neg hl]; exact Ev.now _
  | succ d ih =>
    intro i h h1 h2
    by_cases hl : i < (b.length : Int)
    · obtain ⟨h', e⟩ := ih (i + 1) (Go.bits .and .i64 (wrap64 ((wrap64 ((wrap64 (h * 131)) + (wrap64 (rd b i)))) + 7)) 1073741823) (by omega) (by omega)
      refine ⟨h', Ev.step (fun k => by rw [spec_l1New.l0]) ?_⟩
      simp only [if_pos hl, if_pos (show i < 4000 by omega), if_pos h2]
      rw [w64 (i + 1) (by omega) (by omega)]
      exact e
    · refine ⟨h, Ev.step (fun k => by rw [spec_l1New.l0]) ?_⟩
      simp only [if_neg hl]; exact Ev.now _
theorem d_new (b : List Int) (hb : b.length ≤ 1048576) : ∃ h, Ev (fun k => spec_l1New.f k b) (b, 0, h) ∧ Cur b 0 := by
  obtain ⟨h, e⟩ := d_new0 b hb 4000 0 (wrap64 (10677 + (b.length : Int))) (by omega) (by omega)
  exact ⟨h, by unfold spec_l1New.f; exact e, by omega, by omega, hb⟩

theorem d_once {b : List Int} {i h : Int} (c : Cur b i) (n : Int) (hn : n ≤ 4294967296) : ∃ r i' h', spec_l1Once.f b i h n = some (r, i', h') ∧ Cur b i' := by
  unfold spec_l1Once.f
  obtain ⟨r, i', h', e, _, _, _, c'⟩ := d_below (h := h) c n hn
  rw [e]
  exact ⟨_, _, _, rfl, c'⟩

theorem d_bytesl (b : List Int) (n : Int) (hn : n ≤ 1000) : ∀ (d : Nat) (i h j : Int) (o : List Int), Cur b i → j + d = n → 0 ≤ j → (o.length : Int) = j → ∃ r i' h', Ev (fun k => spec_l1DrawBytes.l0 k o n j b i h) (r, i', h') ∧ Cur b i' ∧ (r.length : Int) = n := by
  intro d
  induction d with
  | zero =>
    intro i h j o c h1 h2 h3
    refine ⟨o, i, h, Ev.step (fun k => by rw [spec_l1DrawBytes.l0]) ?_, c, by omega⟩
    simp only [if_neg (show ¬ j < n by omega)]
    exact Ev.now _
  | succ d ih =>
    intro i h j o c h1 h2 h3
    obtain ⟨x, i1, g1, e1, _, _, c1⟩ := d_byte (h := h) c
    obtain ⟨r, i', h', e, c', hr⟩ := ih i1 g1 (j + 1) (o ++ [x % 256]) c1 (by omega) (by omega) (by simp; omega)
    refine ⟨r, i', h', Ev.step (fun k => by rw [spec_l1DrawBytes.l0]) ?_, c', hr⟩
    rw [e1]
    simp only [if_pos (show j < n by omega), Option.bind_some, if_pos (show o.length < 140737488355328 by omega)]
    rw [w64 (j + 1) (by omega) (by omega)]
    exact e
theorem d_bytes {b : List Int} {i h : Int} (c : Cur b i) (m : Int) (h0 : 0 ≤ m) (hm : m ≤ 900) : ∃ r i' h', Ev (fun k => spec_l1DrawBytes.f k b i h m) (r, i', h') ∧ Cur b i' ∧ r.length ≤ 1000 := by
  unfold spec_l1DrawBytes.f
  rw [w64 (m + 1) (by omega) (by omega)]
  obtain ⟨x, i1, g1, e1, x0, x1, _, c1⟩ := d_below (h := h) c (m + 1) (by omega)
  have x1 := x1 (by omega)
  obtain ⟨r, i', h', e, c', hr⟩ := d_bytesl b x (by omega) x.toNat i1 g1 0 [] c1 (by omega) (by omega) (by simp)
  refine ⟨r, i', h', ?_, c', by omega⟩
  rw [e1]
  exact e
theorem strOfNums_size (l : List Int) : (strOfNums l).size = l.length := by
  unfold strOfNums
  simp [ByteArray.size]
theorem d_text9 {b : List Int} {i h : Int} (c : Cur b i) : ∃ r i' h', Ev (fun k => spec_l9DrawText.f k b i h) (r, i', h') ∧ Cur b i' ∧ r.size ≤ 140737488351232 := by
  unfold spec_l9DrawText.f
  obtain ⟨o, i1, g1, e1, c1⟩ := d_once (h := h) c 25 (by omega)
  rw [e1]
  simp only [Option.bind_some]
  by_cases ho : o = true
  · obtain ⟨x, i2, g2, e2, x0, x1, _, c2⟩ := d_below (h := g1) c1 2 (by omega)
    have x1 := x1 (by omega)
    refine ⟨strOfNums (List.replicate (1000 + x).toNat 0), i2, g2, ?_, c2, ?_⟩
    · simp only [if_pos ho]
      rw [e2]
      simp only [Option.bind_some]
      rw [w64 (1000 + x) (by omega) (by omega)]
      simp only [if_pos (show 0 ≤ 1000 + x by omega), if_pos (show (1000 + x).toNat ≤ 281474976710656 by omega)]
      exact Ev.now _
    · rw [strOfNums_size, List.length_replicate]; omega
  · unfold spec_l3DrawText.f
    obtain ⟨r, i2, g2, e2, c2, hr⟩ := d_bytes (h := g1) c1 50 (by omega) (by omega)
    refine ⟨strOfNums r, i2, g2, ?_, c2, by rw [strOfNums_size]; omega⟩
    simp only [if_neg ho]
    exact Ev.bind (Ev.bind e2 (Ev.now _)) (Ev.now _)
theorem d_part (b : List Int) (hb : b.length ≤ 1048576) : ∃ s i, Ev (fun k => spec_DrawPartOf.f k b) (s, i) ∧ s.size ≤ 140737488351232 ∧ -9223372036854775808 ≤ i ∧ i ≤ 9223372036854775807 := by
  unfold spec_DrawPartOf.f
  obtain ⟨h, e, c⟩ := d_new b hb
  obtain ⟨s, i1, g1, e1, c1, hs⟩ := d_text9 (h := h) c
  obtain ⟨x, i2, g2, e2, _, _, _, c2⟩ := d_below (h := g1) c1 6 (by omega)
  obtain ⟨y, i3, g3, e3, _, _, _, c3⟩ := d_below (h := g2) c2 9 (by omega)
  refine ⟨s, wrap64 (x - wrap64 (Int.tdiv y 8)), Ev.bind e (Ev.bind e1 ?_), hs, by unfold wrap64; omega, by unfold wrap64; omega⟩
  rw [e2]
  simp only [Option.bind_some]
  rw [e3]
  simp only [Option.bind_some]
  exact Ev.now _
theorem partOf_in (s : ByteArray) (k : Nat) (hs : s.size ≤ 1000) (hk : k * 16 < s.size) : partOf s (k : Int) = (s.extract (16 * k) (min (16 * (k + 1)) s.size), true) := by
  unfold partOf
  rw [if_pos ⟨by omega, by omega, by omega⟩]
  rw [show ((k : Int) * 16).toNat = 16 * k by omega, show (min (((k : Int) + 1) * 16) (s.size : Int)).toNat = min (16 * (k + 1)) s.size by omega]
theorem sizes_l (s : ByteArray) (i : Int) (x : ByteArray) (hs : s.size ≤ 1000) (hx : ∀ k : Nat, (k : Int) = i → x = (partOf s (k : Int)).1) : ∀ (q k : Nat), k + q = (s.size + 15) / 16 → Ev (fun n => laws_FnSizes.l0 n s i x (((s.size + 15) / 16 : Nat) : Int) (s.extract 0 (min (16 * k) s.size)) (k : Int)) true := by
  intro q
  induction q with
  | zero =>
    intro k hk
    refine Ev.step (fun n => by rw [laws_FnSizes.l0]) ?_
    have e : s.extract 0 (min (16 * k) s.size) = s := by
      rw [show min (16 * k) s.size = s.size by omega]; exact ByteArray.extract_zero_size
    simp only [if_neg (show ¬ (k : Int) < (((s.size + 15) / 16 : Nat) : Int) by omega), e, if_true]
    rw [w64 _ (by omega) (by omega)]
    simp only [decide_eq_true (show (((s.size + 15) / 16 : Nat) : Int) * 16 ≥ (s.size : Int) by omega)]
    exact Ev.now _
  | succ q ih =>
    intro k hk
    refine Ev.step (fun n => by rw [laws_FnSizes.l0]) ?_
    have hlt : k * 16 < s.size := by omega
    have hp := partOf_in s k hs hlt
    rw [i_PartOf s (k : Int) (by omega) (by omega), hp]
    have hz : (s.extract (16 * k) (min (16 * (k + 1)) s.size)).size = min (16 * (k + 1)) s.size - 16 * k := by rw [ByteArray.size_extract]; omega
    have hz2 : (s.extract 0 (min (16 * k) s.size)).size ≤ 1000 := by rw [ByteArray.size_extract]; omega
    have ha : s.extract 0 (min (16 * k) s.size) ++ s.extract (16 * k) (min (16 * (k + 1)) s.size) = s.extract 0 (min (16 * (k + 1)) s.size) := by
      rw [show min (16 * k) s.size = 16 * k by omega, ByteArray.extract_append_extract, Nat.min_eq_left (Nat.zero_le _), Nat.max_eq_right (by omega)]
    have hn := ih (k + 1) (by omega)
    simp only [Option.bind_some, if_pos (show (k : Int) < (((s.size + 15) / 16 : Nat) : Int) by omega), if_true]
    rw [hz, ha]
    simp only [if_neg (show ¬ ((min (16 * (k + 1)) s.size - 16 * k : Nat) : Int) < 1 by omega), if_neg (show ¬ ((min (16 * (k + 1)) s.size - 16 * k : Nat) : Int) > 16 by omega)]
    rw [w64 ((((s.size + 15) / 16 : Nat) : Int) - 1) (by omega) (by omega), inc k (by omega)]
    simp only [if_pos (show (s.extract 0 (min (16 * k) s.size)).size + (min (16 * (k + 1)) s.size - 16 * k) ≤ 9223372036854775807 by omega)]
    have hxx : (k : Int) = i → (s.extract (16 * k) (min (16 * (k + 1)) s.size)).toList = x.toList := by
      intro e
      rw [hx k e, hp]
    by_cases h1 : (k : Int) < (((s.size + 15) / 16 : Nat) : Int) - 1
    · simp only [if_pos h1, if_pos (show ((min (16 * (k + 1)) s.size - 16 * k : Nat) : Int) = 16 by omega)]
      by_cases h2 : (k : Int) = i
      · simp only [if_pos h2, if_pos (hxx h2)]; exact hn
      · simp only [if_neg h2]; exact hn
    · simp only [if_neg h1]
      by_cases h2 : (k : Int) = i
      · simp only [if_pos h2, if_pos (hxx h2)]; exact hn
      · simp only [if_neg h2]; exact hn
theorem FnSizes : laws_FnSizes.Pure := by
  intro b hl hl2 hw
  refine Ev.rounds ?_
  unfold laws_FnSizes.f laws_big.f
  simp only [Option.bind_some]
  by_cases hb : (b.length : Int) > 1048576
  · simp only [decide_eq_true hb, if_true]; exact Ev.now _
  · simp only [decide_eq_false hb, Bool.false_eq_true, if_false]
    obtain ⟨s, i, e, hs, hi⟩ := d_part b (by omega)
    refine Ev.bind e ?_
    rw [i_PartOf s i hi hs, s_PartOf s i hi hs, i_PartsOf, s_PartsOf]
    simp only [Option.bind_some, bne_self_eq_false]
    have key : Ev (fun k => laws_FnSizes.j0 k s i (partOf s i).1 (partOf s i).2 (if 0 ≤ (s.size : Int) ∧ (s.size : Int) ≤ 1000 then ((s.size : Int) + 15) / 16 else -1) false) true := by
      refine Ev.step (fun n => by rw [laws_FnSizes.j0]) ?_
      simp only [Bool.false_eq_true, if_false]
      by_cases h : (s.size : Int) ≤ 1000
      · simp only [if_pos (show 0 ≤ (s.size : Int) ∧ (s.size : Int) ≤ 1000 from ⟨by omega, h⟩), if_neg (show ¬ ((s.size : Int) + 15) / 16 < 0 by omega)]
        have := sizes_l s i (partOf s i).1 (by omega) (fun k e => by rw [e]) ((s.size + 15) / 16) 0 (by omega)
        have e0 : s.extract 0 (min (16 * 0) s.size) = (⟨#[]⟩ : ByteArray) := by
          apply ByteArray.ext
          rw [ByteArray.data_extract]
          simp
        rw [e0] at this
        rw [show ((s.size : Int) + 15) / 16 = (((s.size + 15) / 16 : Nat) : Int) by omega]
        exact this
      · have e2 : partOf s i = (⟨#[]⟩, false) := by unfold partOf; rw [if_neg (fun g => h g.1)]
        rw [e2]
        simp only [if_neg (show ¬ (0 ≤ (s.size : Int) ∧ (s.size : Int) ≤ 1000) from fun g => h g.2), if_pos (show (-1 : Int) < 0 by omega), Bool.false_eq_true, if_false]
        have : ((⟨#[]⟩ : ByteArray).toList == ([] : List UInt8)) = true := by
          rw [bal]; rfl
        rw [this]
        exact Ev.now _
    by_cases h : (partOf s i).2 = true
    · simp only [h, if_true] at key ⊢
      exact key
    · simp only [h, Bool.false_eq_true, if_false] at key ⊢
      exact key

end Go.Proofs.Ytkjfcgnhpalhnaa.Pure
