/- An argument that is a slice of bools: opened. -/
import Derived.Test.YtohnhgchoppgmaaShell
import Derived.Test.YtohnhgchoppgmaaAlignMore
import Derived.Deep.Grids
namespace Go.Proofs.Ytohnhgchoppgmaa
open Go.ChangeShapes Go.WideShapes Go.ChangeAt Go.RowKit Go.Joins Go.Deep

theorem cells_bool : Try.prog.cellsOf 4 = 1 := by kernel_rfl

section
variable {H : Type} {enc : TypeId × Value → H} {w : World} {base b0 : Nat} {r : Reach} {held : Bool} {v : Value} {d : DataW H} {p : List MemPlace}

theorem open_bls (hv : Value.okWide Try.prog w r b0 28 v) (h : DataW.Trod enc Try.prog w base (fun _ => true) held 28 v d p) :
    ∃ (ao : Option Addr) (cap n : Nat) (f : Nat → Bool), v = .slice ao n cap ∧ n ≤ maxLen ∧ Bl w ao n f := by
  obtain ⟨a0, len, cap, rfl⟩ := okWide_slice Try.underlying28 hv
  obtain ⟨fuel, hf⟩ := h
  rcases open_bools Try.underlying28 Try.underlying4 cells_bool hf with ⟨hcs, -⟩ | ⟨a, len', cap', B, hcs, -, hl, hm, -, hcell⟩
  · simp [Value.cells] at hcs
    obtain ⟨rfl, rfl, rfl⟩ := hcs
    exact ⟨none, 0, 0, fun _ => false, rfl, Nat.zero_le _, .inl rfl⟩
  · simp [Value.cells] at hcs
    obtain ⟨rfl, rfl, rfl⟩ := hcs
    refine ⟨some a, cap, len, B, rfl, by omega, ?_⟩
    by_cases h0 : len = 0
    · exact .inl h0
    · obtain ⟨b, off, spot⟩ := a
      have hc0 := hcell 0 (by omega)
      have hspot : spot = none := by simpa [Addr.add] using World.cell?_spot hc0
      subst hspot
      refine .inr ⟨b, off, rfl, World.block_lt_of_cell? w _ (by simpa [Addr.add] using hc0), fun i hi => ?_⟩
      have hc := hcell i (by omega)
      cases i <;> simpa [Addr.add] using hc
end

end Go.Proofs.Ytohnhgchoppgmaa
