/- An argument of type [2]int, opened. -/
import Derived.Test.YtakoemapgnffeaaShell
namespace Go.Proofs.Ytakoemapgnffeaa
open Go.ChangeShapes Go.WideShapes Go.ChangeAt Go.RowKit

theorem cells_pair : Try.prog.cellsOf 35 = 2 := by kernel_rfl
theorem cells_int : Try.prog.cellsOf 3 = 1 := by kernel_rfl

theorem open_pair {H : Type} {enc : TypeId × Value → H} {w : World} {base b0 : Nat} {r : Reach} {spare : Nat → Bool} {held : Bool} {v : Value} {d : DataW H} {p : List MemPlace}
    (hv : Value.okWide Try.prog w r b0 35 v) (h : DataW.Trod enc Try.prog w base spare held 35 v d p) :
    ∃ a b : Int, v = .agg #[.int .i64 a, .int .i64 b] := by
  simp only [Value.okWide, Try.underlying35] at hv
  obtain ⟨cs, rfl, hsz, -⟩ := hv
  rw [cells_pair] at hsz
  obtain ⟨l⟩ := cs
  match l, hsz with
  | [c0, c1], _ =>
    obtain ⟨fuel, hf⟩ := h
    obtain ⟨xs, m, -, -, -, hl, hi⟩ := DataW.trod_array Try.underlying35 hf
    have h0 := hi 0 (by decide)
    have h1 := hi 1 (by decide)
    rw [cells_int] at h0 h1
    have e0 : xs[0]? = some (xs[0]'(by omega)) := List.getElem?_eq_getElem _
    have e1 : xs[1]? = some (xs[1]'(by omega)) := List.getElem?_eq_getElem _
    rw [e0] at h0
    rw [e1] at h1
    simp [Value.cells] at h0 h1
    obtain ⟨a, ha, -, -⟩ := DataW.trod_int Try.underlying3 h0
    obtain ⟨b, hb, -, -⟩ := DataW.trod_int Try.underlying3 h1
    exact ⟨a, b, by simp at ha hb; rw [ha, hb]⟩

end Go.Proofs.Ytakoemapgnffeaa
