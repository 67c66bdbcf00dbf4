/- Sizing: an argument that is a case or a size: opened. -/
import Derived.Test.YtdddlnemlpgnlaaShell
import Derived.Test.YtdddlnemlpgnlaaSizeOf
namespace Go.Proofs.Ytdddlnemlpgnlaa
open Go.ChangeShapes Go.WideShapes Go.ChangeAt Go.RowKit Go.Joins Go.Deep
theorem cells_one : Try.prog.cellsOf 3 = 1 := by kernel_rfl
theorem cells_bool : Try.prog.cellsOf 4 = 1 := by kernel_rfl
theorem cells_text : Try.prog.cellsOf 9 = 1 := by kernel_rfl
theorem cells_size : Try.prog.cellsOf 23 = 2 := by kernel_rfl
theorem cells_sizes : Try.prog.cellsOf 24 = 8 := by kernel_rfl
theorem cells_ints : Try.prog.cellsOf 25 = 4 := by kernel_rfl
theorem cells_style : Try.prog.cellsOf 27 = 55 := by kernel_rfl
theorem cells_case : Try.prog.cellsOf 29 = 59 := by kernel_rfl

section
variable {H : Type} {enc : TypeId × Value → H} {w : World} {base b0 : Nat} {r : Reach} {spare : Nat → Bool} {held : Bool} {v : Value} {d : DataW H} {p : List MemPlace}

theorem sub_at {cs : List Value} {o k i : Nat} (hi : i < k) : ((cs.drop o).take k)[i]? = cs[o + i]? := by
  rw [List.getElem?_take, if_pos hi, List.getElem?_drop]
theorem int_in {fuel : Nat} {cs : List Value} {j : Nat} {y : DataW H × List MemPlace} (h : DataW.trod enc Try.prog w base spare held fuel 3 ((cs.drop j).take 1) = some y) : ∃ n, cs[j]? = some (.int .i64 n) := by
  obtain ⟨n, hn, -, -⟩ := DataW.trod_int Try.underlying3 h
  exact ⟨n, by rw [← Nat.add_zero j, ← sub_at (k := 1) (by omega), hn]; rfl⟩
theorem bool_in {fuel : Nat} {cs : List Value} {j : Nat} {y : DataW H × List MemPlace} (h : DataW.trod enc Try.prog w base spare held fuel 4 ((cs.drop j).take 1) = some y) : ∃ n, cs[j]? = some (.bool n) := by
  obtain ⟨n, hn, -⟩ := DataW.trod_bool Try.underlying4 h
  exact ⟨n, by rw [← Nat.add_zero j, ← sub_at (k := 1) (by omega), hn]; rfl⟩
theorem text_in {fuel : Nat} {cs : List Value} {j : Nat} {y : DataW H × List MemPlace} (h : DataW.trod enc Try.prog w base spare held fuel 9 ((cs.drop j).take 1) = some y) : ∃ n, cs[j]? = some (.string n) := by
  obtain ⟨n, hn, -, -⟩ := DataW.trod_string Try.underlying9 h
  exact ⟨n, by rw [← Nat.add_zero j, ← sub_at (k := 1) (by omega), hn]; rfl⟩
theorem size_in {fuel : Nat} {cs : List Value} {j : Nat} {y : DataW H × List MemPlace} (h : DataW.trod enc Try.prog w base spare held fuel 23 ((cs.drop j).take 2) = some y) : ∀ i, i < 2 → ∃ n, cs[j + i]? = some (.int .i64 n) := by
  obtain ⟨xs, n, -, -, hlen, hx, hf⟩ := DataW.trod_struct Try.underlying23 h
  have hx2 : xs.length = 2 := hx
  have h0 : DataW.trod enc Try.prog w base spare held n 3 ((((cs.drop j).take 2).drop 0).take (Try.prog.cellsOf 3)) = xs[0]? := hf 0 _ rfl
  have h1 : DataW.trod enc Try.prog w base spare held n 3 ((((cs.drop j).take 2).drop 1).take (Try.prog.cellsOf 3)) = xs[1]? := hf 1 _ rfl
  rw [cells_one, List.getElem?_eq_getElem (by omega)] at h0 h1
  intro i hi
  have h2 : ∃ n, ((cs.drop j).take 2)[i]? = some (.int .i64 n) := by
    rcases (show i = 0 ∨ i = 1 by omega) with rfl | rfl
    · exact int_in h0
    · exact int_in h1
  rwa [sub_at hi] at h2
theorem sizes_in {fuel : Nat} {cs : List Value} {j : Nat} {y : DataW H × List MemPlace} (h : DataW.trod enc Try.prog w base spare held fuel 24 ((cs.drop j).take 8) = some y) : ∀ i, i < 8 → ∃ n, cs[j + i]? = some (.int .i64 n) := by
  obtain ⟨xs, m, -, -, -, hl, hi⟩ := DataW.trod_array Try.underlying24 h
  rw [cells_size] at hi
  intro i hi8
  have h1 := hi (i / 2) (by omega)
  rw [List.getElem?_eq_getElem (by omega)] at h1
  have h2 := size_in h1 (i % 2) (by omega)
  rw [show i / 2 * 2 + i % 2 = i by omega, sub_at hi8] at h2
  exact h2
theorem ints_in {fuel : Nat} {cs : List Value} {j : Nat} {y : DataW H × List MemPlace} (h : DataW.trod enc Try.prog w base spare held fuel 25 ((cs.drop j).take 4) = some y) : ∀ i, i < 4 → ∃ n, cs[j + i]? = some (.int .i64 n) := by
  obtain ⟨xs, m, -, -, -, hl, hi⟩ := DataW.trod_array Try.underlying25 h
  rw [cells_one] at hi
  intro i hi4
  have h1 := hi i hi4
  rw [List.getElem?_eq_getElem (by omega)] at h1
  have h2 := int_in h1
  rw [Nat.mul_one, sub_at hi4] at h2
  exact h2

theorem style_in {fuel : Nat} {cs : List Value} {y : DataW H × List MemPlace} (h : DataW.trod enc Try.prog w base spare held fuel 27 cs = some y) :
    (∀ j, j < 55 → j ≠ 1 → j ≠ 52 → ∃ n, cs[j]? = some (.int .i64 n)) ∧ (∃ n, cs[1]? = some (.bool n)) ∧ (∃ n, cs[52]? = some (.string n)) := by
  obtain ⟨xs, n, -, -, hlen, hx, hf⟩ := DataW.trod_struct Try.underlying27 h
  have hx2 : xs.length = 29 := hx
  have h0 : DataW.trod enc Try.prog w base spare held n 3 ((cs.drop 0).take (Try.prog.cellsOf 3)) = xs[0]? := hf 0 _ rfl
  rw [cells_one, List.getElem?_eq_getElem (by omega)] at h0
  have g0 := int_in h0
  have h1 : DataW.trod enc Try.prog w base spare held n 4 ((cs.drop 1).take (Try.prog.cellsOf 4)) = xs[1]? := hf 1 _ rfl
  rw [cells_bool, List.getElem?_eq_getElem (by omega)] at h1
  have g1 := bool_in h1
  have h2 : DataW.trod enc Try.prog w base spare held n 23 ((cs.drop 2).take (Try.prog.cellsOf 23)) = xs[2]? := hf 2 _ rfl
  rw [cells_size, List.getElem?_eq_getElem (by omega)] at h2
  have g2 := size_in h2
  have h3 : DataW.trod enc Try.prog w base spare held n 23 ((cs.drop 4).take (Try.prog.cellsOf 23)) = xs[3]? := hf 3 _ rfl
  rw [cells_size, List.getElem?_eq_getElem (by omega)] at h3
  have g3 := size_in h3
  have h4 : DataW.trod enc Try.prog w base spare held n 23 ((cs.drop 6).take (Try.prog.cellsOf 23)) = xs[4]? := hf 4 _ rfl
  rw [cells_size, List.getElem?_eq_getElem (by omega)] at h4
  have g4 := size_in h4
  have h5 : DataW.trod enc Try.prog w base spare held n 23 ((cs.drop 8).take (Try.prog.cellsOf 23)) = xs[5]? := hf 5 _ rfl
  rw [cells_size, List.getElem?_eq_getElem (by omega)] at h5
  have g5 := size_in h5
  have h6 : DataW.trod enc Try.prog w base spare held n 23 ((cs.drop 10).take (Try.prog.cellsOf 23)) = xs[6]? := hf 6 _ rfl
  rw [cells_size, List.getElem?_eq_getElem (by omega)] at h6
  have g6 := size_in h6
  have h7 : DataW.trod enc Try.prog w base spare held n 23 ((cs.drop 12).take (Try.prog.cellsOf 23)) = xs[7]? := hf 7 _ rfl
  rw [cells_size, List.getElem?_eq_getElem (by omega)] at h7
  have g7 := size_in h7
  have h8 : DataW.trod enc Try.prog w base spare held n 24 ((cs.drop 14).take (Try.prog.cellsOf 24)) = xs[8]? := hf 8 _ rfl
  rw [cells_sizes, List.getElem?_eq_getElem (by omega)] at h8
  have g8 := sizes_in h8
  have h9 : DataW.trod enc Try.prog w base spare held n 24 ((cs.drop 22).take (Try.prog.cellsOf 24)) = xs[9]? := hf 9 _ rfl
  rw [cells_sizes, List.getElem?_eq_getElem (by omega)] at h9
  have g9 := sizes_in h9
  have h10 : DataW.trod enc Try.prog w base spare held n 25 ((cs.drop 30).take (Try.prog.cellsOf 25)) = xs[10]? := hf 10 _ rfl
  rw [cells_ints, List.getElem?_eq_getElem (by omega)] at h10
  have g10 := ints_in h10
  have h11 : DataW.trod enc Try.prog w base spare held n 3 ((cs.drop 34).take (Try.prog.cellsOf 3)) = xs[11]? := hf 11 _ rfl
  rw [cells_one, List.getElem?_eq_getElem (by omega)] at h11
  have g11 := int_in h11
  have h12 : DataW.trod enc Try.prog w base spare held n 3 ((cs.drop 35).take (Try.prog.cellsOf 3)) = xs[12]? := hf 12 _ rfl
  rw [cells_one, List.getElem?_eq_getElem (by omega)] at h12
  have g12 := int_in h12
  have h13 : DataW.trod enc Try.prog w base spare held n 3 ((cs.drop 36).take (Try.prog.cellsOf 3)) = xs[13]? := hf 13 _ rfl
  rw [cells_one, List.getElem?_eq_getElem (by omega)] at h13
  have g13 := int_in h13
  have h14 : DataW.trod enc Try.prog w base spare held n 3 ((cs.drop 37).take (Try.prog.cellsOf 3)) = xs[14]? := hf 14 _ rfl
  rw [cells_one, List.getElem?_eq_getElem (by omega)] at h14
  have g14 := int_in h14
  have h15 : DataW.trod enc Try.prog w base spare held n 3 ((cs.drop 38).take (Try.prog.cellsOf 3)) = xs[15]? := hf 15 _ rfl
  rw [cells_one, List.getElem?_eq_getElem (by omega)] at h15
  have g15 := int_in h15
  have h16 : DataW.trod enc Try.prog w base spare held n 3 ((cs.drop 39).take (Try.prog.cellsOf 3)) = xs[16]? := hf 16 _ rfl
  rw [cells_one, List.getElem?_eq_getElem (by omega)] at h16
  have g16 := int_in h16
  have h17 : DataW.trod enc Try.prog w base spare held n 23 ((cs.drop 40).take (Try.prog.cellsOf 23)) = xs[17]? := hf 17 _ rfl
  rw [cells_size, List.getElem?_eq_getElem (by omega)] at h17
  have g17 := size_in h17
  have h18 : DataW.trod enc Try.prog w base spare held n 3 ((cs.drop 42).take (Try.prog.cellsOf 3)) = xs[18]? := hf 18 _ rfl
  rw [cells_one, List.getElem?_eq_getElem (by omega)] at h18
  have g18 := int_in h18
  have h19 : DataW.trod enc Try.prog w base spare held n 3 ((cs.drop 43).take (Try.prog.cellsOf 3)) = xs[19]? := hf 19 _ rfl
  rw [cells_one, List.getElem?_eq_getElem (by omega)] at h19
  have g19 := int_in h19
  have h20 : DataW.trod enc Try.prog w base spare held n 3 ((cs.drop 44).take (Try.prog.cellsOf 3)) = xs[20]? := hf 20 _ rfl
  rw [cells_one, List.getElem?_eq_getElem (by omega)] at h20
  have g20 := int_in h20
  have h21 : DataW.trod enc Try.prog w base spare held n 3 ((cs.drop 45).take (Try.prog.cellsOf 3)) = xs[21]? := hf 21 _ rfl
  rw [cells_one, List.getElem?_eq_getElem (by omega)] at h21
  have g21 := int_in h21
  have h22 : DataW.trod enc Try.prog w base spare held n 3 ((cs.drop 46).take (Try.prog.cellsOf 3)) = xs[22]? := hf 22 _ rfl
  rw [cells_one, List.getElem?_eq_getElem (by omega)] at h22
  have g22 := int_in h22
  have h23 : DataW.trod enc Try.prog w base spare held n 23 ((cs.drop 47).take (Try.prog.cellsOf 23)) = xs[23]? := hf 23 _ rfl
  rw [cells_size, List.getElem?_eq_getElem (by omega)] at h23
  have g23 := size_in h23
  have h24 : DataW.trod enc Try.prog w base spare held n 23 ((cs.drop 49).take (Try.prog.cellsOf 23)) = xs[24]? := hf 24 _ rfl
  rw [cells_size, List.getElem?_eq_getElem (by omega)] at h24
  have g24 := size_in h24
  have h25 : DataW.trod enc Try.prog w base spare held n 3 ((cs.drop 51).take (Try.prog.cellsOf 3)) = xs[25]? := hf 25 _ rfl
  rw [cells_one, List.getElem?_eq_getElem (by omega)] at h25
  have g25 := int_in h25
  have h26 : DataW.trod enc Try.prog w base spare held n 9 ((cs.drop 52).take (Try.prog.cellsOf 9)) = xs[26]? := hf 26 _ rfl
  rw [cells_text, List.getElem?_eq_getElem (by omega)] at h26
  have g26 := text_in h26
  have h27 : DataW.trod enc Try.prog w base spare held n 3 ((cs.drop 53).take (Try.prog.cellsOf 3)) = xs[27]? := hf 27 _ rfl
  rw [cells_one, List.getElem?_eq_getElem (by omega)] at h27
  have g27 := int_in h27
  have h28 : DataW.trod enc Try.prog w base spare held n 3 ((cs.drop 54).take (Try.prog.cellsOf 3)) = xs[28]? := hf 28 _ rfl
  rw [cells_one, List.getElem?_eq_getElem (by omega)] at h28
  have g28 := int_in h28
  refine ⟨fun j hj h1 h52 => ?_, g1, g26⟩
  rcases (show j = 0 ∨ j = 2 ∨ j = 3 ∨ j = 4 ∨ j = 5 ∨ j = 6 ∨ j = 7 ∨ j = 8 ∨ j = 9 ∨ j = 10 ∨ j = 11 ∨ j = 12 ∨ j = 13 ∨ j = 14 ∨ j = 15 ∨ j = 16 ∨ j = 17 ∨ j = 18 ∨ j = 19 ∨ j = 20 ∨ j = 21 ∨ j = 22 ∨ j = 23 ∨ j = 24 ∨ j = 25 ∨ j = 26 ∨ j = 27 ∨ j = 28 ∨ j = 29 ∨ j = 30 ∨ j = 31 ∨ j = 32 ∨ j = 33 ∨ j = 34 ∨ j = 35 ∨ j = 36 ∨ j = 37 ∨ j = 38 ∨ j = 39 ∨ j = 40 ∨ j = 41 ∨ j = 42 ∨ j = 43 ∨ j = 44 ∨ j = 45 ∨ j = 46 ∨ j = 47 ∨ j = 48 ∨ j = 49 ∨ j = 50 ∨ j = 51 ∨ j = 53 ∨ j = 54 by omega) with rfl | rfl | rfl | rfl | rfl | rfl | rfl | rfl | rfl | rfl | rfl | rfl | rfl | rfl | rfl | rfl | rfl | rfl | rfl | rfl | rfl | rfl | rfl | rfl | rfl | rfl | rfl | rfl | rfl | rfl | rfl | rfl | rfl | rfl | rfl | rfl | rfl | rfl | rfl | rfl | rfl | rfl | rfl | rfl | rfl | rfl | rfl | rfl | rfl | rfl | rfl | rfl | rfl
  · exact g0
  · exact g2 0 (by omega)
  · exact g2 1 (by omega)
  · exact g3 0 (by omega)
  · exact g3 1 (by omega)
  · exact g4 0 (by omega)
  · exact g4 1 (by omega)
  · exact g5 0 (by omega)
  · exact g5 1 (by omega)
  · exact g6 0 (by omega)
  · exact g6 1 (by omega)
  · exact g7 0 (by omega)
  · exact g7 1 (by omega)
  · exact g8 0 (by omega)
  · exact g8 1 (by omega)
  · exact g8 2 (by omega)
  · exact g8 3 (by omega)
  · exact g8 4 (by omega)
  · exact g8 5 (by omega)
  · exact g8 6 (by omega)
  · exact g8 7 (by omega)
  · exact g9 0 (by omega)
  · exact g9 1 (by omega)
  · exact g9 2 (by omega)
  · exact g9 3 (by omega)
  · exact g9 4 (by omega)
  · exact g9 5 (by omega)
  · exact g9 6 (by omega)
  · exact g9 7 (by omega)
  · exact g10 0 (by omega)
  · exact g10 1 (by omega)
  · exact g10 2 (by omega)
  · exact g10 3 (by omega)
  · exact g11
  · exact g12
  · exact g13
  · exact g14
  · exact g15
  · exact g16
  · exact g17 0 (by omega)
  · exact g17 1 (by omega)
  · exact g18
  · exact g19
  · exact g20
  · exact g21
  · exact g22
  · exact g23 0 (by omega)
  · exact g23 1 (by omega)
  · exact g24 0 (by omega)
  · exact g24 1 (by omega)
  · exact g25
  · exact g27
  · exact g28

def valInt : Option Value → Int
  | some (.int .i64 n) => n
  | _ => 0
def valBool : Option Value → Bool
  | some (.bool b) => b
  | _ => false
/-- The case of a list of cells. -/
def csOf (cs : List Value) : Cs := ⟨fun j => valInt cs[j]?, valBool cs[1]?, (cs[52]?).getD undef⟩
theorem csOf_int {cs : List Value} {j : Nat} (h : ∃ n, cs[j]? = some (.int .i64 n)) : cs[j]? = some (.int .i64 ((csOf cs).n j)) := by
  obtain ⟨n, hn⟩ := h
  have e : (csOf cs).n j = n := by show valInt cs[j]? = n; rw [hn]; rfl
  rw [e, hn]
theorem csOf_cells {cs : List Value} (hl : cs.length = 59) (hi : ∀ j, j < 59 → j ≠ 1 → j ≠ 52 → ∃ n, cs[j]? = some (.int .i64 n)) (hb : ∃ n, cs[1]? = some (.bool n)) (hs : ∃ n, cs[52]? = some (.string n)) :
    cs.toArray = (csOf cs).cells ∧ (csOf cs).s.oneCell' = true := by
  have hb2 : cs[1]? = some (.bool (csOf cs).b) := by
    obtain ⟨n, hn⟩ := hb
    have e : (csOf cs).b = n := by show valBool cs[1]? = n; rw [hn]; rfl
    rw [e, hn]
  have hs2 : cs[52]? = some (csOf cs).s ∧ (csOf cs).s.oneCell' = true := by
    obtain ⟨n, hn⟩ := hs
    have e : (csOf cs).s = .string n := by show (cs[52]?).getD undef = _; rw [hn]; rfl
    rw [e, hn]
    exact ⟨rfl, rfl⟩
  refine ⟨?_, hs2.2⟩
  have e : cs = (csOf cs).cells.toList := by
    apply List.ext_getElem?
    intro j
    by_cases hj : j < 59
    · by_cases h1 : j = 1
      · subst h1; exact hb2
      · by_cases h52 : j = 52
        · subst h52; exact hs2.1
        · rw [csOf_int (hi j hj h1 h52)]
          rcases (show j = 0 ∨ j = 2 ∨ j = 3 ∨ j = 4 ∨ j = 5 ∨ j = 6 ∨ j = 7 ∨ j = 8 ∨ j = 9 ∨ j = 10 ∨ j = 11 ∨ j = 12 ∨ j = 13 ∨ j = 14 ∨ j = 15 ∨ j = 16 ∨ j = 17 ∨ j = 18 ∨ j = 19 ∨ j = 20 ∨ j = 21 ∨ j = 22 ∨ j = 23 ∨ j = 24 ∨ j = 25 ∨ j = 26 ∨ j = 27 ∨ j = 28 ∨ j = 29 ∨ j = 30 ∨ j = 31 ∨ j = 32 ∨ j = 33 ∨ j = 34 ∨ j = 35 ∨ j = 36 ∨ j = 37 ∨ j = 38 ∨ j = 39 ∨ j = 40 ∨ j = 41 ∨ j = 42 ∨ j = 43 ∨ j = 44 ∨ j = 45 ∨ j = 46 ∨ j = 47 ∨ j = 48 ∨ j = 49 ∨ j = 50 ∨ j = 51 ∨ j = 53 ∨ j = 54 ∨ j = 55 ∨ j = 56 ∨ j = 57 ∨ j = 58 by omega) with rfl | rfl | rfl | rfl | rfl | rfl | rfl | rfl | rfl | rfl | rfl | rfl | rfl | rfl | rfl | rfl | rfl | rfl | rfl | rfl | rfl | rfl | rfl | rfl | rfl | rfl | rfl | rfl | rfl | rfl | rfl | rfl | rfl | rfl | rfl | rfl | rfl | rfl | rfl | rfl | rfl | rfl | rfl | rfl | rfl | rfl | rfl | rfl | rfl | rfl | rfl | rfl | rfl | rfl | rfl | rfl | rfl
          all_goals rfl
    · rw [List.getElem?_eq_none (by omega), List.getElem?_eq_none (by show 59 ≤ j; omega)]
  rw [← Array.toArray_toList (xs := (csOf cs).cells), ← e]

theorem open_case (hv : Value.okWide Try.prog w r b0 29 v) (h : DataW.Trod enc Try.prog w base spare held 29 v d p) : ∃ c : Cs, v = c.val ∧ c.s.oneCell' = true := by
  simp only [Value.okWide, Try.underlying29] at hv
  obtain ⟨cs, rfl, hsz, -⟩ := hv
  rw [cells_case] at hsz
  obtain ⟨l⟩ := cs
  have hl : l.length = 59 := hsz
  obtain ⟨fuel, hf⟩ := h
  have hf : DataW.trod enc Try.prog w base spare held fuel 29 l = some (d, p) := hf
  obtain ⟨xs, n, -, -, hlen, hx, hg⟩ := DataW.trod_struct Try.underlying29 hf
  have hx2 : xs.length = 5 := hx
  have h0 : DataW.trod enc Try.prog w base spare held n 27 ((l.drop 0).take (Try.prog.cellsOf 27)) = xs[0]? := hg 0 _ rfl
  rw [cells_style, List.getElem?_eq_getElem (by omega)] at h0
  obtain ⟨g1, g2, g3⟩ := style_in h0
  have i1 : DataW.trod enc Try.prog w base spare held n 3 ((l.drop 55).take (Try.prog.cellsOf 3)) = xs[1]? := hg 1 _ rfl
  rw [cells_one, List.getElem?_eq_getElem (by omega)] at i1
  have i2 : DataW.trod enc Try.prog w base spare held n 3 ((l.drop 56).take (Try.prog.cellsOf 3)) = xs[2]? := hg 2 _ rfl
  rw [cells_one, List.getElem?_eq_getElem (by omega)] at i2
  have i3 : DataW.trod enc Try.prog w base spare held n 3 ((l.drop 57).take (Try.prog.cellsOf 3)) = xs[3]? := hg 3 _ rfl
  rw [cells_one, List.getElem?_eq_getElem (by omega)] at i3
  have i4 : DataW.trod enc Try.prog w base spare held n 3 ((l.drop 58).take (Try.prog.cellsOf 3)) = xs[4]? := hg 4 _ rfl
  rw [cells_one, List.getElem?_eq_getElem (by omega)] at i4
  have hall : ∀ j, j < 59 → j ≠ 1 → j ≠ 52 → ∃ n, l[j]? = some (.int .i64 n) := fun j hj h1 h52 => by
    by_cases hj5 : j < 55
    · have h := g1 j hj5 h1 h52
      rw [sub_at hj5, Nat.zero_add] at h
      exact h
    · rcases (show j = 55 ∨ j = 56 ∨ j = 57 ∨ j = 58 by omega) with rfl | rfl | rfl | rfl
      · exact int_in i1
      · exact int_in i2
      · exact int_in i3
      · exact int_in i4
  rw [sub_at (by omega), Nat.zero_add] at g2 g3
  obtain ⟨e, hs⟩ := csOf_cells hl hall g2 g3
  exact ⟨csOf l, by rw [Cs.val_eq, ← e], hs⟩

theorem open_size (hv : Value.okWide Try.prog w r b0 23 v) (h : DataW.Trod enc Try.prog w base spare held 23 v d p) :
    ∃ a b : Int, v = .agg #[.int .i64 a, .int .i64 b] := by
  obtain ⟨c0, c1, y0, y1, m, rfl, -, -, hy0, hy1⟩ := open_agg2 Try.underlying23 (by kernel_rfl) cells_size hv h
  obtain ⟨a, ha, -, -⟩ := DataW.trod_int Try.underlying3 hy0
  obtain ⟨b, hb, -, -⟩ := DataW.trod_int Try.underlying3 hy1
  exact ⟨a, b, by simp at ha hb; rw [ha, hb]⟩
end

end Go.Proofs.Ytdddlnemlpgnlaa
