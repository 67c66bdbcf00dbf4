/- An argument that is one item; a slice of items with what nil means: opened. -/
import Derived.Test.YtndpblgedpdjdaaFlexOpens
namespace Go.Proofs.Ytndpblgedpdjdaa
open Go.ChangeShapes Go.WideShapes Go.ChangeAt Go.RowKit Go.Joins Go.Deep

section
variable {H : Type} {enc : TypeId × Value → H} {w : World} {base b0 : Nat} {r : Reach} {spare : Nat → Bool} {held : Bool} {v : Value} {d : DataW H} {p : List MemPlace}

theorem open_item (hv : Value.okWide Try.prog w r b0 34 v) (h : DataW.Trod enc Try.prog w base spare held 34 v d p) : ∃ q : It, v = q.val := by
  obtain ⟨cs, rfl, hsz⟩ := okWide_struct Try.underlying34 hv
  obtain ⟨fuel, hf⟩ := h
  obtain ⟨q, hq⟩ := item_in hf
  refine ⟨q, ?_⟩
  have e : cs.toList = q.cells := by simpa [Value.cells] using hq
  obtain ⟨l⟩ := cs
  simp at e
  subst e
  rfl

theorem open_items2 (hv : Value.okWide Try.prog w r b0 22 v) (h : DataW.Trod enc Try.prog w base spare held 22 v d p) :
    ∃ (ao : Option Addr) (cap n : Nat) (L : Nat → It), v = .slice ao n cap ∧ n ≤ maxLen ∧ Its w ao n L ∧ (ao = none → n = 0 ∧ cap = 0) := by
  have hh := h
  obtain ⟨ao, cap, n, L, rfl, hm, hI⟩ := open_items hv h
  refine ⟨ao, cap, n, L, rfl, hm, hI, ?_⟩
  rintro rfl
  obtain ⟨fuel, hf⟩ := hh
  rcases open_slice Try.underlying22 hf with ⟨hcs, -⟩ | ⟨a, len', cap', m, n', D, Pl, hcs, -⟩
  · simp [Value.cells] at hcs
    exact hcs
  · simp [Value.cells] at hcs
end

end Go.Proofs.Ytndpblgedpdjdaa
