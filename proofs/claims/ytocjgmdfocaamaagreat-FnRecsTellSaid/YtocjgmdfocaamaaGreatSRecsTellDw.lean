/- Runs whose result is told only up to a property: the result is chosen ahead of the run, for every state that the values describe. -/
import Derived.Test.YtocjgmdfocaamaaGreatSRecsTellY
set_option linter.unusedVariables false
set_option linter.unusedSimpArgs false
namespace Go.Sy
structure Cur where
  data : List UInt8
  pos : Int
  seed : Int
section
variable {P : Program} {N : Cx}
def LW (P : Program) (c : Code) (Q : Exit → Act → World → Prop) (a : Act) (w : World) : Prop :=
  ∀ b k cs, ∃ e a' w', Q e a' w' ∧ Arrives P (lone (b.at a (.code c :: .inLoop c :: k)) cs w) b k cs e a' w'
theorem LW.round {c : Code} {Q : Exit → Act → World → Prop} {a : Act} {w : World} (h : c.wp P (Exit.then (LW P c Q) Q) a w) : LW P c Q a w := by
  intro b k cs
  obtain ⟨e, a₁, w₁, hq, harr⟩ := h b (.inLoop c :: k) cs
  cases e with
  | normal =>
    obtain ⟨e₂, a₂, w₂, hq₂, harr₂⟩ := hq b k cs
    exact ⟨e₂, a₂, w₂, hq₂, .of_steps (Steps.trans harr (.one step_inLoop)) harr₂⟩
  | exit id => exact ⟨_, a₁, w₁, hq, .pass (x := .inLoop c) rfl (fun _ _ => .inl (by simp)) harr⟩
  | goto l => exact ⟨_, a₁, w₁, hq, .pass (x := .inLoop c) rfl (fun _ _ => .inl (by simp)) harr⟩
  | ret => exact ⟨_, a₁, w₁, hq, .pass (x := .inLoop c) rfl (fun _ _ => .inl (by simp)) harr⟩
  | panic ch => exact ⟨_, a₁, w₁, hq, .pass (x := .inLoop c) rfl (fun _ _ => .inl (by simp)) harr⟩
  | outgrown => exact ⟨_, a₁, w₁, hq, .pass (x := .inLoop c) rfl (fun _ _ => .inl (by simp)) harr⟩
theorem LW.loop {c : Code} {Q : Exit → Act → World → Prop} {a : Act} {w : World} (h : LW P c Q a w) : (Code.loop c).wp P Q a w := by
  intro b k cs
  obtain ⟨e, a', w', hq, harr⟩ := h b k cs
  exact ⟨e, a', w', hq, .of_steps (.one step_loop) harr⟩
def AWL (P : Program) (N : Cx) (c : Code) (σ : Sg) (K : Exit → Sg → Prop) : Prop :=
  ∀ G0 w0 a w, St G0 w0 N σ a w → LW P c (fun e a' w' => ∃ σ', K e σ' ∧ St G0 w0 N σ' a' w') a w
theorem AWL.round {c : Code} {σ : Sg} {K : Exit → Sg → Prop} (h : AW P N c σ (thenK (fun σ' => AWL P N c σ' K) K)) : AWL P N c σ K := by
  intro G0 w0 a w s
  refine LW.round (wp_mono (h G0 w0 a w s) ?_)
  rintro e a' w' ⟨σ', h1, h2⟩
  cases e with
  | normal => exact h1 G0 w0 a' w' h2
  | exit id => exact ⟨σ', h1, h2⟩
  | goto l => exact ⟨σ', h1, h2⟩
  | ret => exact ⟨σ', h1, h2⟩
  | panic ch => exact ⟨σ', h1, h2⟩
  | outgrown => exact ⟨σ', h1, h2⟩
theorem AWL.loop {c : Code} {σ : Sg} {K : Exit → Sg → Prop} (h : AWL P N c σ K) : AW P N (.loop c) σ K := fun G0 w0 a w s => LW.loop (h G0 w0 a w s)
theorem AWL.weak {c : Code} {σ σ' : Sg} {K : Exit → Sg → Prop} (hs : Sub N σ σ') (h : AWL P N c σ' K) : AWL P N c σ K := fun G0 w0 a w s => h G0 w0 a w (hs G0 w0 a w s)
theorem DW.loop {ρ β : Type} {Φ : ρ → Exit → Sg → Prop} {c : Code} {σ : Sg} (S : β → Sg) (R : β → Prop) (m : β → Nat) (x : β) (hx : R x) (h0 : Sub N σ (S x))
    (round : ∀ x, R x → (∀ y, R y → m y < m x → ∃ r, AWL P N c (S y) (Φ r)) → ∃ r, AW P N c (S x) (thenK (fun σ' => AWL P N c σ' (Φ r)) (Φ r))) : ∃ r, AW P N (.loop c) σ (Φ r) := by
  have key : ∀ n x, m x = n → R x → ∃ r, AWL P N c (S x) (Φ r) := by
    intro n
    induction n using Nat.strongRecOn with
    | _ n ih =>
      intro x hn hx
      obtain ⟨r, hr⟩ := round x hx (fun y hy hm => ih (m y) (hn ▸ hm) y rfl hy)
      exact ⟨r, AWL.round hr⟩
  obtain ⟨r, hr⟩ := key _ x rfl hx
  exact ⟨r, AW.weak h0 (AWL.loop hr)⟩
theorem dw {ρ : Type} {Q A B : ρ → Prop} (h : ∀ r, A r → B r) : (∃ r, Q r ∧ A r) → ∃ r, Q r ∧ B r := fun ⟨r, q, a⟩ => ⟨r, q, h r a⟩
theorem DW.loopQ {ρ β : Type} {Q : ρ → Prop} {Φ : ρ → Exit → Sg → Prop} {c : Code} {σ : Sg} (S : β → Sg) (R : β → Prop) (m : β → Nat) (x : β) (hx : R x) (h0 : Sub N σ (S x))
    (round : ∀ x, R x → (∀ y, R y → m y < m x → ∃ r, Q r ∧ AWL P N c (S y) (Φ r)) → ∃ r, Q r ∧ AW P N c (S x) (thenK (fun σ' => AWL P N c σ' (Φ r)) (Φ r))) : ∃ r, Q r ∧ AW P N (.loop c) σ (Φ r) := by
  have key : ∀ n x, m x = n → R x → ∃ r, Q r ∧ AWL P N c (S x) (Φ r) := by
    intro n
    induction n using Nat.strongRecOn with
    | _ n ih =>
      intro x hn hx
      obtain ⟨r, hq, hr⟩ := round x hx (fun y hy hm => ih (m y) (hn ▸ hm) y rfl hy)
      exact ⟨r, hq, AWL.round hr⟩
  obtain ⟨r, hq, hr⟩ := key _ x rfl hx
  exact ⟨r, hq, AW.weak h0 (AWL.loop hr)⟩
end
end Go.Sy

