/- An argument that is a struct of two integers; a slice of parts; a slice of integers: opened. -/
import Derived.Test.YtppgpejneninnaaShell
import Derived.Test.YtppgpejneninnaaStrutBetween
namespace Go.Proofs.Ytppgpejneninnaa
open Go.ChangeShapes Go.WideShapes Go.ChangeAt Go.RowKit Go.Joins Go.Deep

theorem cells_strut : Try.prog.cellsOf 23 = 2 := by kernel_rfl
theorem cells_bool : Try.prog.cellsOf 4 = 1 := by kernel_rfl
theorem cells_part : Try.prog.cellsOf 37 = 6 := by kernel_rfl

section
variable {H : Type} {enc : TypeId × Value → H} {w : World} {base b0 : Nat} {r : Reach} {spare : Nat → Bool} {held : Bool} {v : Value} {d : DataW H} {p : List MemPlace}

theorem open_strut (hv : Value.okWide Try.prog w r b0 23 v) (h : DataW.Trod enc Try.prog w base spare held 23 v d p) :
    ∃ a b : Int, v = .agg #[.int .i64 a, .int .i64 b] := by
  obtain ⟨c0, c1, y0, y1, m, rfl, -, -, hy0, hy1⟩ := open_agg2 Try.underlying23 (by kernel_rfl) cells_strut hv h
  obtain ⟨a, ha, -, -⟩ := DataW.trod_int Try.underlying3 hy0
  obtain ⟨b, hb, -, -⟩ := DataW.trod_int Try.underlying3 hy1
  exact ⟨a, b, by simp at ha hb; rw [ha, hb]⟩

theorem open_int_slice (hv : Value.okWide Try.prog w r b0 38 v) (h : DataW.Trod enc Try.prog w base spare held 38 v d p) :
    ∃ (ao : Option Addr) (cap : Nat) (l : List Int), v = .slice ao l.length cap ∧ l.length ≤ 9223372036854775807 ∧ IntsAt w ao l := by
  obtain ⟨a0, len, cap, rfl⟩ := okWide_slice Try.underlying38 hv
  obtain ⟨fuel, hf⟩ := h
  rcases open_ints Try.underlying38 Try.underlying3 cells_one hf with ⟨hcs, -⟩ | ⟨a, len', cap', zs, hcs, -, hl, hm, hz, -, hcell, -⟩
  · simp [Value.cells] at hcs
    obtain ⟨rfl, rfl, rfl⟩ := hcs
    exact ⟨none, 0, [], rfl, by simp, fun k x hk => by simp at hk⟩
  · simp [Value.cells] at hcs
    obtain ⟨rfl, rfl, rfl⟩ := hcs
    have hlen : (zs.take len).length = len := by
      rw [List.length_take, hz]; split <;> omega
    refine ⟨some a, cap, zs.take len, by rw [hlen], by rw [hlen]; unfold maxLen at hm; omega, ?_⟩
    intro k x hk
    rw [List.getElem?_take] at hk
    split at hk
    · have hc := hcell k (by rw [List.getElem?_eq_some_iff] at hk; exact hk.1)
      obtain ⟨b, off, spot⟩ := a
      have hspot : spot = none := by
        have h0 := World.cell?_spot (hcell 0 (by rw [List.getElem?_eq_some_iff] at hk; have := hk.1; omega))
        simpa [Addr.add] using h0
      subst hspot
      refine ⟨b, off, rfl, ?_⟩
      have e : zs.getD k 0 = x := by rw [List.getD_eq_getElem?_getD, hk]; rfl
      rw [e] at hc
      cases k <;> simpa [Addr.add] using hc
    · cases hk
/-- A field of one cell, an integer or a bool, within a row of cells. -/
theorem int_in {fuel : Nat} {cs : List Value} {j : Nat} {y : DataW H × List MemPlace} (hj : j < cs.length)
    (h : DataW.trod enc Try.prog w base spare held fuel 3 ((cs.drop j).take 1) = some y) : ∃ n, cs[j]? = some (.int .i64 n) := by
  obtain ⟨n, hn, -, -⟩ := DataW.trod_int Try.underlying3 h
  refine ⟨n, ?_⟩
  rw [List.drop_eq_getElem_cons hj, List.take_succ_cons, List.take_zero] at hn
  simp only [List.cons.injEq, and_true] at hn
  rw [List.getElem?_eq_getElem hj, hn]
theorem bool_in {fuel : Nat} {cs : List Value} {j : Nat} {y : DataW H × List MemPlace} (hj : j < cs.length)
    (h : DataW.trod enc Try.prog w base spare held fuel 4 ((cs.drop j).take 1) = some y) : ∃ n, cs[j]? = some (.bool n) := by
  obtain ⟨n, hn, -⟩ := DataW.trod_bool Try.underlying4 h
  refine ⟨n, ?_⟩
  rw [List.drop_eq_getElem_cons hj, List.take_succ_cons, List.take_zero] at hn
  simp only [List.cons.injEq, and_true] at hn
  rw [List.getElem?_eq_getElem hj, hn]

theorem strut_in {fuel : Nat} {cs : List Value} {y : DataW H × List MemPlace} (h : DataW.trod enc Try.prog w base spare held fuel 23 cs = some y) :
    ∃ a b, cs = [.int .i64 a, .int .i64 b] := by
  obtain ⟨xs, n, -, -, hlen, hx, hf⟩ := DataW.trod_struct Try.underlying23 h
  rw [cells_strut] at hlen
  have hx2 : xs.length = 2 := hx
  have h0 : DataW.trod enc Try.prog w base spare held n 3 ((cs.drop 0).take (Try.prog.cellsOf 3)) = xs[0]? := hf 0 _ rfl
  have h1 : DataW.trod enc Try.prog w base spare held n 3 ((cs.drop 1).take (Try.prog.cellsOf 3)) = xs[1]? := hf 1 _ rfl
  rw [cells_one] at h0 h1
  rw [List.getElem?_eq_getElem (by omega)] at h0 h1
  obtain ⟨a, ha⟩ := int_in (j := 0) (by omega) h0
  obtain ⟨b, hb⟩ := int_in (j := 1) (by omega) h1
  match cs, hlen, ha, hb with
  | [c0, c1], _, ha, hb => simp at ha hb; exact ⟨a, b, by rw [ha, hb]⟩

theorem part_in {fuel : Nat} {cs : List Value} {y : DataW H × List MemPlace} (h : DataW.trod enc Try.prog w base spare held fuel 37 cs = some y) :
    ∃ p : Pt, cs = [.int .i64 p.tu, .int .i64 p.td, .int .i64 p.bu, .int .i64 p.bd, .int .i64 p.h, .bool p.thr] := by
  obtain ⟨xs, n, -, -, hlen, hx, hf⟩ := DataW.trod_struct Try.underlying37 h
  rw [cells_part] at hlen
  have hx2 : xs.length = 4 := hx
  have h0 : DataW.trod enc Try.prog w base spare held n 23 ((cs.drop 0).take (Try.prog.cellsOf 23)) = xs[0]? := hf 0 _ rfl
  have h1 : DataW.trod enc Try.prog w base spare held n 23 ((cs.drop 2).take (Try.prog.cellsOf 23)) = xs[1]? := hf 1 _ rfl
  have h2 : DataW.trod enc Try.prog w base spare held n 3 ((cs.drop 4).take (Try.prog.cellsOf 3)) = xs[2]? := hf 2 _ rfl
  have h3 : DataW.trod enc Try.prog w base spare held n 4 ((cs.drop 5).take (Try.prog.cellsOf 4)) = xs[3]? := hf 3 _ rfl
  rw [cells_strut] at h0 h1
  rw [cells_one] at h2
  rw [cells_bool] at h3
  rw [List.getElem?_eq_getElem (by omega)] at h0 h1 h2 h3
  obtain ⟨a, b, hab⟩ := strut_in h0
  obtain ⟨c, d, hcd⟩ := strut_in h1
  obtain ⟨m, hm⟩ := int_in (j := 4) (by omega) h2
  obtain ⟨t, ht⟩ := bool_in (j := 5) (by omega) h3
  match cs, hlen, hab, hcd, hm, ht with
  | [c0, c1, c2, c3, c4, c5], _, hab, hcd, hm, ht =>
    simp at hab hcd hm ht
    obtain ⟨rfl, rfl⟩ := hab
    obtain ⟨rfl, rfl⟩ := hcd
    exact ⟨⟨a, b, c, d, m, t⟩, by rw [hm, ht]⟩

theorem open_parts (hv : Value.okWide Try.prog w r b0 35 v) (h : DataW.Trod enc Try.prog w base spare held 35 v d p) :
    ∃ (ao : Option Addr) (cap : Nat) (l : List Pt), v = .slice ao l.length cap ∧ l.length ≤ 9223372036854775807 ∧ PartsAt w w.heap.size ao l := by
  obtain ⟨a0, len, cap, rfl⟩ := okWide_slice Try.underlying35 hv
  obtain ⟨fuel, hf⟩ := h
  rcases open_slice Try.underlying35 hf with ⟨hcs, -⟩ | ⟨a, len', cap', m, n, D, Pl, hcs, -, hl, hm, hmm, -, hi⟩
  · simp [Value.cells] at hcs
    obtain ⟨rfl, rfl, rfl⟩ := hcs
    exact ⟨none, 0, [], rfl, by simp, fun k x hk => by simp at hk⟩
  · simp [Value.cells] at hcs
    obtain ⟨rfl, rfl, rfl⟩ := hcs
    have hlm : len ≤ m := by rw [hmm]; split <;> omega
    rw [cells_part] at hi
    have hpart : ∀ i, i < len → ∃ q : Pt, ∀ j u, [Value.int .i64 q.tu, .int .i64 q.td, .int .i64 q.bu, .int .i64 q.bd, .int .i64 q.h, .bool q.thr][j]? = some u → w.cell? (a.add (i * 6 + j)) = some u := by
      intro i him
      obtain ⟨cs', hc, ht⟩ := hi i (by omega)
      obtain ⟨q, rfl⟩ := part_in ht
      obtain ⟨_, hcl, hat⟩ := World.cells?_some hc
      refine ⟨q, fun j u hu => ?_⟩
      have hj : j < 6 := by have := (List.getElem?_eq_some_iff.1 hu).1; simpa using this
      rw [← Go.Deep.add_add, hat j hj]
      exact hu
    have hex : ∀ i, ∃ q : Pt, i < len → ∀ j u, [Value.int .i64 q.tu, .int .i64 q.td, .int .i64 q.bu, .int .i64 q.bd, .int .i64 q.h, .bool q.thr][j]? = some u → w.cell? (a.add (i * 6 + j)) = some u := by
      intro i
      by_cases him : i < len
      · obtain ⟨q, hq⟩ := hpart i him; exact ⟨q, fun _ => hq⟩
      · exact ⟨⟨0, 0, 0, 0, 0, false⟩, fun h => absurd h him⟩
    have hall := fun i => (hex i).choose_spec
    refine ⟨some a, cap, (List.range len).map fun i => (hex i).choose, by simp, by simp; unfold maxLen at hm; omega, ?_⟩
    intro k q hk
    rw [List.getElem?_map] at hk
    have hkl : k < len := by
      rcases Nat.lt_or_ge k len with h1 | h1
      · exact h1
      · rw [List.getElem?_eq_none (by simpa using h1)] at hk; cases hk
    rw [List.getElem?_range hkl] at hk
    simp only [Option.map_some, Option.some.injEq] at hk
    have hc := hall k hkl
    rw [hk] at hc
    obtain ⟨b, off, spot⟩ := a
    have hspot : spot = none := by
      have h0 := World.cell?_spot (hall 0 (by omega) 0 _ rfl)
      simpa [Addr.add] using h0
    subst hspot
    have at_ : ∀ j, (⟨b, off, none⟩ : Addr).add (k * 6 + j) = ⟨b, off + k * 6 + j, none⟩ := by
      intro j; unfold Addr.add; split
      · rename_i h0; congr 1; omega
      · simp [Nat.add_assoc]
    have hlt : b < w.heap.size := by
      have := World.block_lt_of_cell? w _ (hc 0 _ rfl)
      rw [at_] at this; exact this
    exact ⟨b, off, rfl, hlt, (at_ 0) ▸ hc 0 _ rfl, (at_ 1) ▸ hc 1 _ rfl, (at_ 2) ▸ hc 2 _ rfl, (at_ 3) ▸ hc 3 _ rfl, (at_ 4) ▸ hc 4 _ rfl, (at_ 5) ▸ hc 5 _ rfl⟩
end

end Go.Proofs.Ytppgpejneninnaa
