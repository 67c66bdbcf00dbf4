/- Arguments that are a token or a slice of tokens: opened. -/
import Derived.Test.YtmicgfpiknibhaaShell
import Derived.Test.YtmicgfpiknibhaaLexCut
import Derived.HandedShaped
import Derived.Shelf.Vars
import Derived.Test.YtmicgfpiknibhaaLexPass
namespace Go.Proofs.Ytmicgfpiknibhaa
open Go.ChangeShapes Go.WideShapes Go.ChangeAt Go.RowKit Go.Joins Go.Deep

theorem cells_token : Try.prog.cellsOf 23 = 3 := by kernel_rfl
theorem cells_one : Try.prog.cellsOf 3 = 1 := by kernel_rfl
theorem cells_text : Try.prog.cellsOf 9 = 1 := by kernel_rfl

section
variable {H : Type} {enc : TypeId × Value → H} {w : World} {base b0 : Nat} {r : Reach} {spare : Nat → Bool} {held : Bool} {v : Value} {d : DataW H} {p : List MemPlace}

theorem int_in {fuel : Nat} {cs : List Value} {j : Nat} {y : DataW H × List MemPlace} (hj : j < cs.length)
    (h : DataW.trod enc Try.prog w base spare held fuel 3 ((cs.drop j).take 1) = some y) : ∃ n, cs[j]? = some (.int .i64 n) := by
  obtain ⟨n, hn, -, -⟩ := DataW.trod_int Try.underlying3 h
  refine ⟨n, ?_⟩
  rw [List.drop_eq_getElem_cons hj, List.take_succ_cons, List.take_zero] at hn
  simp only [List.cons.injEq, and_true] at hn
  rw [List.getElem?_eq_getElem hj, hn]
theorem text_in {fuel : Nat} {cs : List Value} {j : Nat} {y : DataW H × List MemPlace} (hj : j < cs.length)
    (h : DataW.trod enc Try.prog w base spare held fuel 9 ((cs.drop j).take 1) = some y) : ∃ n, cs[j]? = some (.string n) := by
  obtain ⟨n, hn, -, -⟩ := DataW.trod_string Try.underlying9 h
  refine ⟨n, ?_⟩
  rw [List.drop_eq_getElem_cons hj, List.take_succ_cons, List.take_zero] at hn
  simp only [List.cons.injEq, and_true] at hn
  rw [List.getElem?_eq_getElem hj, hn]
theorem strOf_back (s : ByteArray) : strOf s.data.toList = s := Go.WideShapes.bytes_inj (strOf_data _)

theorem tk_in {fuel : Nat} {cs : List Value} {y : DataW H × List MemPlace} (h : DataW.trod enc Try.prog w base spare held fuel 23 cs = some y) :
    ∃ t : Tk, cs = t.cells := by
  obtain ⟨xs, n, -, -, hlen, hx, hf⟩ := DataW.trod_struct Try.underlying23 h
  rw [cells_token] at hlen
  have hx2 : xs.length = 3 := hx
  have h0 : DataW.trod enc Try.prog w base spare held n 3 ((cs.drop 0).take (Try.prog.cellsOf 3)) = xs[0]? := hf 0 _ rfl
  have h1 : DataW.trod enc Try.prog w base spare held n 9 ((cs.drop 1).take (Try.prog.cellsOf 9)) = xs[1]? := hf 1 _ rfl
  have h2 : DataW.trod enc Try.prog w base spare held n 3 ((cs.drop 2).take (Try.prog.cellsOf 3)) = xs[2]? := hf 2 _ rfl
  rw [cells_one] at h0 h2
  rw [cells_text] at h1
  rw [List.getElem?_eq_getElem (by omega)] at h0 h1 h2
  obtain ⟨a0, e0⟩ := int_in (j := 0) (by omega) h0
  obtain ⟨a1, e1⟩ := text_in (j := 1) (by omega) h1
  obtain ⟨a2, e2⟩ := int_in (j := 2) (by omega) h2
  match cs, hlen, e0, e1, e2 with
  | [c0, c1, c2], _, e0, e1, e2 =>
    simp at e0 e1 e2
    exact ⟨⟨a0, a1.data.toList, a2⟩, by unfold Tk.cells; rw [e0, e1, e2, strOf_back]⟩

theorem open_token (hv : Value.okWide Try.prog w r b0 23 v) (h : DataW.Trod enc Try.prog w base spare held 23 v d p) : ∃ t : Tk, v = t.val := by
  obtain ⟨cs, rfl, hsz⟩ := okWide_struct Try.underlying23 hv
  obtain ⟨fuel, hf⟩ := h
  obtain ⟨t, ht⟩ := tk_in hf
  refine ⟨t, ?_⟩
  have e : cs.toList = t.cells := by simpa [Value.cells] using ht
  obtain ⟨l⟩ := cs
  simp at e
  subst e
  rfl

theorem open_tokens (hv : Value.okWide Try.prog w r b0 26 v) (h : DataW.Trod enc Try.prog w base spare held 26 v d p) :
    ∃ (ao : Option Addr) (cap : Nat) (L : List Tk), v = .slice ao L.length cap ∧ L.length ≤ cap ∧ cap ≤ maxLen ∧ Tks w ao L ∧ (ao = none → L = [] ∧ cap = 0) := by
  obtain ⟨a0, len, cap, rfl⟩ := okWide_slice Try.underlying26 hv
  obtain ⟨fuel, hf⟩ := h
  rcases open_slice Try.underlying26 hf with ⟨hcs, -⟩ | ⟨a, len', cap', m, n, D, Pl, hcs, -, hl, hm, hmm, -, hi⟩
  · simp [Value.cells] at hcs
    obtain ⟨rfl, rfl, rfl⟩ := hcs
    exact ⟨none, 0, [], rfl, Nat.le_refl _, Nat.zero_le _, .inl rfl, fun _ => ⟨rfl, rfl⟩⟩
  · simp [Value.cells] at hcs
    obtain ⟨rfl, rfl, rfl⟩ := hcs
    have hlm : len ≤ m := by rw [hmm]; split <;> omega
    rw [cells_token] at hi
    have hex : ∀ i, ∃ t : Tk, i < len → ∀ j u, t.cells[j]? = some u → w.cell? (a.add (i * 3 + j)) = some u := by
      intro i
      by_cases him : i < len
      · obtain ⟨cs', hc, ht⟩ := hi i (by omega)
        obtain ⟨t, rfl⟩ := tk_in ht
        obtain ⟨_, hcl, hat⟩ := World.cells?_some hc
        refine ⟨t, fun _ j u hu => ?_⟩
        have hj : j < 3 := by have := (List.getElem?_eq_some_iff.1 hu).1; simpa [Tk.cells] using this
        rw [← Go.Deep.add_add, hat j hj]
        exact hu
      · exact ⟨⟨0, [], 0⟩, fun h => absurd h him⟩
    have hall := fun i => (hex i).choose_spec
    refine ⟨some a, cap, (List.range len).map (fun i => (hex i).choose), by simp, by simp; omega, by omega, ?_, fun h => by cases h⟩
    by_cases h0 : len = 0
    · left; subst h0; rfl
    · obtain ⟨b, off, spot⟩ := a
      have hc0 := hall 0 (by omega) 0 _ rfl
      have hspot : spot = none := by simpa [Addr.add] using World.cell?_spot hc0
      subst hspot
      refine .inr ⟨b, off, rfl, World.block_lt_of_cell? w _ (by simpa [Addr.add] using hc0), fun k t ht => ?_⟩
      have hk : k < len := by have := (List.getElem?_eq_some_iff.1 ht).1; simpa using this
      have het : (hex k).choose = t := by
        rw [List.getElem?_map, List.getElem?_range hk] at ht
        simpa using ht
      have e : ∀ j, (⟨b, off, none⟩ : Addr).add (k * 3 + j) = ⟨b, off + k * 3 + j, none⟩ := fun j => by
        unfold Addr.add; split
        · rename_i h0; congr 1; omega
        · simp [Nat.add_assoc]
      have key : ∀ j u, t.cells[j]? = some u → w.cell? ⟨b, off + k * 3 + j, none⟩ = some u := fun j u hu => by rw [← e]; exact hall k hk j u (by rw [het]; exact hu)
      exact ⟨key 0 _ rfl, key 1 _ rfl, key 2 _ rfl⟩
end

/-- The library's variable holds some number. -/
theorem gm_of {w : World} (h : w.ShapedOpen Try.prog) : Gm w := by
  obtain ⟨m, hm⟩ := cell_of_shapedOpen_int (P := Try.prog) (g := 0) (t := 3) (zero := #[.int .i64 0]) h (of_decide_eq_true (by kernel_rfl)) (by kernel_rfl) rfl (by kernel_rfl) (by kernel_rfl) Try.underlying3
  exact ⟨m, hm⟩

end Go.Proofs.Ytmicgfpiknibhaa
