/- Parcels: a library's function that reads strings alone, as a contract over values; the parcels' functions. -/
import Derived.Test.YtdpcdcogbmkffaaSParcelPb
import Derived.Lib.Join
import Derived.Below
set_option linter.unusedVariables false
set_option linter.unusedSimpArgs false
namespace Go.Sy
open Go.RowKit
def catS : List ByteArray → List UInt8
  | [] => []
  | x :: l => x.data.toList ++ catS l
theorem Hold.below0 {G : Gh} {w w' : World} (H : Hold G w (obs [])) (h : w.heap.size ≤ w'.heap.size) : Hold G w' (obs []) where
  ij := H.ij
  lt b hb := Nat.lt_of_lt_of_le (H.lt b hb) h
  own i := by
    have := H.own i
    simpa [obs, Gh.Own, OwnOb] using this
  flt i b hb := Nat.lt_of_lt_of_le (H.flt i b hb) h
  fj := H.fj
  dis := H.dis
theorem fr_below {G : Gh} {w w' : World} (h : Below w.heap.size w w') : Fr G w G w' :=
  ⟨h.os, h.tape, h.output, h.size, fun b hb _ => h.block b hb, fun _ _ h => h, fun _ h => h, fun _ h => h, fun _ h => .inl h, fun _ h => .inl h, fun i b h => .inl ⟨i, h⟩⟩
theorem FnSpec.pure {P : Program} {f : Nat} {As : List V} {R : V} (v : Value) (hv : ∀ (G : Gh) (w : World), G.Rep w v R)
    (h : ∀ (G : Gh) (w : World) (args : Array Value), Hold G w (obs []) → args.size = As.length → (∀ (k : Nat) (x : V), As[k]? = some x → G.Rep w (args.getD k undef) x) → Calls P f args w fun e w' => e = .returned v ∧ Below w.heap.size w w') : FnSpec P f As [] R [] := by
  intro G w args H hn ha
  refine (h G w args H hn ha).mono ?_
  rintro e w' ⟨rfl, hb⟩
  exact ⟨v, G, rfl, H.below0 hb.size, hv G w', fr_below hb⟩
theorem join_spec {P : Program} {f : Nat} (xs : List ByteArray) (hl : xs.length ≤ 1048576) (hs : (catS xs).length ≤ 1048576)
    (h0 : ∀ (a : Option Addr) (c : Nat) (w : World), Calls P f #[.slice a 0 c, .string ⟨#[]⟩] w fun e w' => e = .returned (.string ⟨#[]⟩) ∧ w' = w)
    (h1 : ∀ (bk o c : Nat) (w : World), (∀ (j : Nat) x, xs[j]? = some x → w.cell? ⟨bk, o + j, none⟩ = some (.string x)) → bk < w.heap.size → xs.length ≤ c → Calls P f #[.slice (some ⟨bk, o, none⟩) xs.length c, .string ⟨#[]⟩] w fun e w' => e = .returned (.string (strOf (catS xs))) ∧ Below w.heap.size w w') :
    FnSpec P f [.sl false 1 (xs.map encS), .str ⟨#[]⟩] [] (.str (strOf (catS xs))) [] := by
  refine FnSpec.pure (.string (strOf (catS xs))) (fun G w => .g (.str _)) ?_
  intro G w args H hn ha
  have e2 : args = #[args.getD 0 undef, args.getD 1 undef] := by
    apply Array.ext (by simpa using hn)
    intro i h1 h2
    have : i = 0 ∨ i = 1 := by simp at h2; omega
    rcases this with rfl | rfl <;> simp [Array.getD, h1]
  have g0 := Rep.inv_sl (ha 0 _ rfl)
  have g1 := Rep.inv_str (ha 1 _ rfl)
  rw [e2, g1]
  generalize args.getD 0 undef = v at g0
  have hnil : xs = [] → ∀ A c, Calls P f #[.slice A 0 c, .string ⟨#[]⟩] w fun e w' => e = .returned (.string (strOf (catS xs))) ∧ Below w.heap.size w w' := by
    rintro rfl A c
    exact (h0 A c w).mono fun e w' ⟨he, hw⟩ => ⟨he, hw ▸ Below.refl _ _⟩
  generalize hX : xs.map encS = X at g0
  cases g0 with
  | slE A c => exact hnil (List.map_eq_nil_iff.1 hX) A c
  | sl ad m c _ _ _ u hm hc hmx hp' hl' hu' ho' hq' hr =>
    subst hX
    have hm' : m = xs.length := by rw [← hm, List.length_map]
    subst hm'
    cases xs with
    | nil => exact hnil rfl _ _
    | cons x l =>
      have cell : ∀ (j : Nat) (y : ByteArray), (x :: l)[j]? = some y → w.cell? (ad.add j) = some (.string y) := by
        intro j y hy
        have q := hu' j (encS y) (by rw [List.getElem?_map, hy]; rfl) 0 (.str y) rfl
        have q2 := hr j (encS y) (by rw [List.getElem?_map, hy]; rfl) 0 (.str y) rfl
        cases q2h : u j 0 with
        | string s => rw [q2h] at q2; cases q2; rw [show j * 1 + 0 = j by omega, q2h] at q; exact q
        | _ => rw [q2h] at q2; cases q2
      obtain ⟨bk, o, sp⟩ := ad
      have hsp : sp = none := by
        have q := cell 0 x rfl
        rw [show (⟨bk, o, sp⟩ : Addr).add 0 = ⟨bk, o, sp⟩ from by unfold Addr.add; rw [if_pos rfl]] at q
        unfold World.cell? at q
        simp only at q
        split at q
        · split at q
          · cases q
          · rename_i h; simpa using h
        · cases q
      subst hsp
      refine h1 bk o c w (fun j y hy => by rw [← add_lit]; exact cell j y hy) ?_ hc
      exact H.lt _ (by simpa using hp')
theorem joinLib (xs : List ByteArray) : (Lib.join (xs.map (·.data.toList)) []) = catS xs := by
  unfold Lib.join
  induction xs with
  | nil => rfl
  | cons x l ih =>
    cases l with
    | nil => simp [catS, List.intercalate]
    | cons y r =>
      simp only [List.map_cons, List.intercalate, catS] at ih ⊢
      rw [List.intersperse_cons_cons, List.flatten_cons, List.flatten_cons, ih]
      simp
end Go.Sy

