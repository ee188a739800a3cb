/- append(b, s...) of a string. -/
import Derived.Test.YthjmbojkpkbedaaSXMsgReadRi
import Derived.Lib.AppendStr
set_option linter.unusedVariables false
set_option linter.unusedSimpArgs false
namespace Go.Sy
section
variable {P : Program}
open Go.Lib in
variable {N : Cx} {ops : Array Oper}
variable {k : Nat} {σ : Sg} {K : List Tr → Sg → Prop}
theorem Sub.tsl {N : Cx} {σ : Sg} (i j t es : Nat) (xs : List V) (cs : List V) (h : (σ.ob i, cs[j]?) = (.box t cs, some (.sl true es xs))) : Sub N σ (σ.put (.o i (.box t (cs.set j (.sl false es xs))))) := by
  simp only [Prod.mk.injEq] at h
  obtain ⟨h, hn⟩ := h
  intro G0 w0 a w s
  obtain ⟨G, H, ht, h1, h2, f, h4⟩ := s
  refine ⟨G, ⟨H.ij, H.lt, fun k => ?_, H.flt, H.fj, H.dis⟩, ht, h1, h2, f, h4⟩
  by_cases e : k = i
  · subst e
    have h5 := H.own k
    rw [h] at h5
    obtain ⟨r, g, cur, q1, q2, q3, q4, q5, q6⟩ := h5
    have : (σ.put (.o k (.box t (cs.set j (.sl false es xs))))).ob k = .box t (cs.set j (.sl false es xs)) := by simp [Sg.put]
    rw [this]
    refine ⟨r, g, cur, q1, q2, q3, by simpa using q4, fun m x hx => ?_, q6⟩
    rw [List.getElem?_set] at hx
    split at hx
    · rename_i e
      subst e
      split at hx
      · obtain rfl := Option.some.inj hx
        have := q5 j (.sl true es xs) hn
        exact cv_rep H es this
      · cases hx
    · exact q5 m x hx
  · have : (σ.put (.o i (.box t (cs.set j (.sl false es xs))))).ob k = σ.ob k := by simp [Sg.put, e]
    rw [this]
    exact H.own k
end
end Go.Sy

