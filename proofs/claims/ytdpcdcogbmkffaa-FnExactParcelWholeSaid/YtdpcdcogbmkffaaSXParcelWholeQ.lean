/- A region that parts and meets again at one bool. -/
import Derived.Test.YtdpcdcogbmkffaaSXParcelWholeP
set_option linter.unusedVariables false
set_option linter.unusedSimpArgs false
namespace Go.Sy
section
variable {P : Program} {N : Cx}
theorem AW.condF {c : Operand} {x y : Code} {σ : Sg} {K : Exit → Sg → Prop} (b : Bool) (hc : σ.ev c = .bool b) (hb : b = false) (h : AW P N y σ K) : AW P N (.cond c x y) σ K :=
  AW.cond b hc (fun e => by rw [hb] at e; cases e) (fun _ => h)
end
section
variable {P : Program} {N : Cx} {ops : Array Oper} {K : List Tr → Sg → Prop} {k : Nat} {σ : Sg}
theorem At.litK {t d e es bytes n : Nat} {parts : Array (Nat × Operand)} (q : Nat × Nat) (j : Nat) (kill : List Nat) (cs cs' zs xs : List V) (fl : List (Nat × Nat × List V)) (hg : goes ops σ k = true) (ho : opd (opAt ops k) = (.buildSlice t n parts, some d)) (ht : (slE P t N.n d, elInfo P e, zeroCs P e, decide (0 < n) && decide (n * es ≤ 16777216)) = (some (e, es), some (es, bytes), some zs, true))
    (hf : (fillV (fun i => some (i * es, es)) (zerosV n zs) (partsEv σ parts.toList), convL q σ.ob cs, notIn j kill && nodupB kill, chunk es n cs') = (some cs, some (cs', kill), true, xs)) (hfl : kill.map σ.ob = fl.map fun p => Ob.arr p.1 p.2.1 p.2.2) (hfs : ∀ p ∈ fl, ∀ x ∈ p.2.2, (cl x).all gS = true) (hj : σ.ob j = .free)
    (r : At P N ops (k + 1) (σ.puts ((killW kill ++ [.o j (.arr e es xs)]) ++ [.t d (.ref j)])) (fun t s => K (⟨(gpOf ops σ (opAt ops k)).getD [] ++ (partsW parts.toList (partsEv σ parts.toList) ++ obW σ.ob kill ++ [.o j .free]), (killW kill ++ [.o j (.arr e es xs)]) ++ [.t d (.ref j)]⟩ :: t) s)) : At P N ops k σ K := by
  refine At.lit q j kill cs cs' zs xs hg ho ht hf (fun i hi e' es' ys h x hx => ?_) hj r
  obtain ⟨m, hm⟩ := List.getElem?_of_mem hi
  have h1 : (kill.map σ.ob)[m]? = some (σ.ob i) := by rw [List.getElem?_map, hm]; rfl
  rw [hfl, List.getElem?_map] at h1
  obtain ⟨p, hp, h2⟩ := Option.map_eq_some_iff.1 h1
  rw [h] at h2
  injection h2 with _ _ h3
  subst h3
  exact hfs p (List.mem_of_getElem? hp) x hx
end
theorem sayJ {n : Int} (m : Int) (e : n = m) (h : -9223372036854775808 ≤ m ∧ m ≤ 9223372036854775807) : V.int .i64 (IntKind.i64.wrap n) = V.int .i64 m := by
  subst e
  exact sayI n h
theorem sayB {b v : Bool} (h : b = v) : V.bool b = V.bool v := by rw [h]
theorem sayNT {b : Bool} (h : V.bool b = .bool false) : V.bool (!b) = .bool true := by injection h with h; rw [h]; rfl
theorem sayNF {b : Bool} (h : V.bool b = .bool true) : V.bool (!b) = .bool false := by injection h with h; rw [h]; rfl
theorem sayET {α : Type} [BEq α] [LawfulBEq α] {a b : α} (h : a = b) : V.bool (a == b) = .bool true := by rw [h]; simp
theorem sayEF {α : Type} [BEq α] [LawfulBEq α] {a b : α} (h : ¬ a = b) : V.bool (a == b) = .bool false := by rw [beq_eq_false_iff_ne.2 h]
theorem sayUT {α : Type} [BEq α] [LawfulBEq α] {a b : α} (h : ¬ a = b) : V.bool (a != b) = .bool true := by rw [bne_iff_ne.2 h]
theorem sayUF {α : Type} [BEq α] [LawfulBEq α] {a b : α} (h : a = b) : V.bool (a != b) = .bool false := by rw [h]; simp
end Go.Sy

