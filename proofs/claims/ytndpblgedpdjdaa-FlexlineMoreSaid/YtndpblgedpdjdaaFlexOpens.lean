/- An argument that is a slice of items: opened. -/
import Derived.Test.YtndpblgedpdjdaaShell
import Derived.Test.YtndpblgedpdjdaaFlexMem
namespace Go.Proofs.Ytndpblgedpdjdaa
open Go.ChangeShapes Go.WideShapes Go.ChangeAt Go.RowKit Go.Joins Go.Deep

theorem cells_item : Try.prog.cellsOf 34 = 7 := by kernel_rfl
theorem cells_one : Try.prog.cellsOf 3 = 1 := by kernel_rfl

section
variable {H : Type} {enc : TypeId × Value → H} {w : World} {base b0 : Nat} {r : Reach} {spare : Nat → Bool} {held : Bool} {v : Value} {d : DataW H} {p : List MemPlace}

/-- A field of one cell, an integer, within a row of cells. -/
theorem int_in {fuel : Nat} {cs : List Value} {j : Nat} {y : DataW H × List MemPlace} (hj : j < cs.length)
    (h : DataW.trod enc Try.prog w base spare held fuel 3 ((cs.drop j).take 1) = some y) : ∃ n, cs[j]? = some (.int .i64 n) := by
  obtain ⟨n, hn, -, -⟩ := DataW.trod_int Try.underlying3 h
  refine ⟨n, ?_⟩
  rw [List.drop_eq_getElem_cons hj, List.take_succ_cons, List.take_zero] at hn
  simp only [List.cons.injEq, and_true] at hn
  rw [List.getElem?_eq_getElem hj, hn]

theorem item_in {fuel : Nat} {cs : List Value} {y : DataW H × List MemPlace} (h : DataW.trod enc Try.prog w base spare held fuel 34 cs = some y) :
    ∃ q : It, cs = q.cells := by
  obtain ⟨xs, n, -, -, hlen, hx, hf⟩ := DataW.trod_struct Try.underlying34 h
  rw [cells_item] at hlen
  have hx2 : xs.length = 7 := hx
  have h0 : DataW.trod enc Try.prog w base spare held n 3 ((cs.drop 0).take (Try.prog.cellsOf 3)) = xs[0]? := hf 0 _ rfl
  have h1 : DataW.trod enc Try.prog w base spare held n 3 ((cs.drop 1).take (Try.prog.cellsOf 3)) = xs[1]? := hf 1 _ rfl
  have h2 : DataW.trod enc Try.prog w base spare held n 3 ((cs.drop 2).take (Try.prog.cellsOf 3)) = xs[2]? := hf 2 _ rfl
  have h3 : DataW.trod enc Try.prog w base spare held n 3 ((cs.drop 3).take (Try.prog.cellsOf 3)) = xs[3]? := hf 3 _ rfl
  have h4 : DataW.trod enc Try.prog w base spare held n 3 ((cs.drop 4).take (Try.prog.cellsOf 3)) = xs[4]? := hf 4 _ rfl
  have h5 : DataW.trod enc Try.prog w base spare held n 3 ((cs.drop 5).take (Try.prog.cellsOf 3)) = xs[5]? := hf 5 _ rfl
  have h6 : DataW.trod enc Try.prog w base spare held n 3 ((cs.drop 6).take (Try.prog.cellsOf 3)) = xs[6]? := hf 6 _ rfl
  rw [cells_one] at h0 h1 h2 h3 h4 h5 h6
  rw [List.getElem?_eq_getElem (by omega)] at h0 h1 h2 h3 h4 h5 h6
  obtain ⟨a0, e0⟩ := int_in (j := 0) (by omega) h0
  obtain ⟨a1, e1⟩ := int_in (j := 1) (by omega) h1
  obtain ⟨a2, e2⟩ := int_in (j := 2) (by omega) h2
  obtain ⟨a3, e3⟩ := int_in (j := 3) (by omega) h3
  obtain ⟨a4, e4⟩ := int_in (j := 4) (by omega) h4
  obtain ⟨a5, e5⟩ := int_in (j := 5) (by omega) h5
  obtain ⟨a6, e6⟩ := int_in (j := 6) (by omega) h6
  match cs, hlen, e0, e1, e2, e3, e4, e5, e6 with
  | [c0, c1, c2, c3, c4, c5, c6], _, e0, e1, e2, e3, e4, e5, e6 =>
    simp at e0 e1 e2 e3 e4 e5 e6
    exact ⟨⟨a0, a1, a2, a3, a4, a5, a6⟩, by unfold It.cells; rw [e0, e1, e2, e3, e4, e5, e6]⟩

theorem open_items (hv : Value.okWide Try.prog w r b0 22 v) (h : DataW.Trod enc Try.prog w base spare held 22 v d p) :
    ∃ (ao : Option Addr) (cap n : Nat) (L : Nat → It), v = .slice ao n cap ∧ n ≤ maxLen ∧ Its w ao n L := by
  obtain ⟨a0, len, cap, rfl⟩ := okWide_slice Try.underlying22 hv
  obtain ⟨fuel, hf⟩ := h
  rcases open_slice Try.underlying22 hf with ⟨hcs, -⟩ | ⟨a, len', cap', m, n, D, Pl, hcs, -, hl, hm, hmm, -, hi⟩
  · simp [Value.cells] at hcs
    obtain ⟨rfl, rfl, rfl⟩ := hcs
    exact ⟨none, 0, 0, fun _ => ⟨0, 0, 0, 0, 0, 0, 0⟩, rfl, Nat.zero_le _, .inl rfl⟩
  · simp [Value.cells] at hcs
    obtain ⟨rfl, rfl, rfl⟩ := hcs
    have hlm : len ≤ m := by rw [hmm]; split <;> omega
    rw [cells_item] at hi
    have hex : ∀ i, ∃ q : It, i < len → ∀ j u, q.cells[j]? = some u → w.cell? (a.add (i * 7 + j)) = some u := by
      intro i
      by_cases him : i < len
      · obtain ⟨cs', hc, ht⟩ := hi i (by omega)
        obtain ⟨q, rfl⟩ := item_in ht
        obtain ⟨_, hcl, hat⟩ := World.cells?_some hc
        refine ⟨q, fun _ j u hu => ?_⟩
        have hj : j < 7 := by have := (List.getElem?_eq_some_iff.1 hu).1; simpa [It.cells] using this
        rw [← Go.Deep.add_add, hat j hj]
        exact hu
      · exact ⟨⟨0, 0, 0, 0, 0, 0, 0⟩, fun h => absurd h him⟩
    have hall := fun i => (hex i).choose_spec
    refine ⟨some a, cap, len, fun i => (hex i).choose, rfl, by omega, ?_⟩
    by_cases h0 : len = 0
    · exact .inl h0
    · obtain ⟨b, off, spot⟩ := a
      have hc0 := hall 0 (by omega) 0 _ rfl
      have hspot : spot = none := by simpa [Addr.add] using World.cell?_spot hc0
      subst hspot
      refine .inr ⟨b, off, rfl, World.block_lt_of_cell? w _ (by simpa [Addr.add] using hc0), fun k hk => ?_⟩
      have e : ∀ j, (⟨b, off, none⟩ : Addr).add (k * 7 + j) = ⟨b, off + k * 7 + j, none⟩ := fun j => by
        unfold Addr.add; split
        · rename_i h0; congr 1; omega
        · simp [Nat.add_assoc]
      have key : ∀ j u, (hex k).choose.cells[j]? = some u → w.cell? ⟨b, off + k * 7 + j, none⟩ = some u := fun j u hu => by rw [← e]; exact hall k hk j u hu
      exact ⟨key 0 _ rfl, key 1 _ rfl, key 2 _ rfl, key 3 _ rfl, key 4 _ rfl, key 5 _ rfl, key 6 _ rfl⟩
end

end Go.Proofs.Ytndpblgedpdjdaa
