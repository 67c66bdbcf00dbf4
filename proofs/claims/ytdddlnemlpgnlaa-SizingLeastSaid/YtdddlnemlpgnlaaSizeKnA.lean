/- Sizing, known: the words of layer 9, their places, the first values of layer 10. -/
import Derived.Test.YtdddlnemlpgnlaaSizePKeep
namespace Go.Proofs.Ytdddlnemlpgnlaa
open Go.RowKit
set_option linter.unusedSimpArgs false
set_option linter.unusedVariables false
attribute [local go_sem] cell?_ext frozen?_ext lt_size_ext

/-- The words of layer 9. -/
def wordL : List ByteArray := [{ data := #[] }, { data := #[97, 117, 116, 111] }, { data := #[110, 111, 110, 101] }, { data := #[98, 108, 111, 99, 107] }, { data := #[102, 108, 101, 120] }, { data := #[99, 111, 110, 116, 101, 110, 116, 45, 98, 111, 120] }, { data := #[98, 111, 114, 100, 101, 114, 45, 98, 111, 120] }, { data := #[109, 105, 110, 45, 99, 111, 110, 116, 101, 110, 116] }, { data := #[109, 97, 120, 45, 99, 111, 110, 116, 101, 110, 116] }, { data := #[102, 105, 116, 45, 99, 111, 110, 116, 101, 110, 116] }, { data := #[114, 111, 119] }, { data := #[114, 111, 119, 45, 114, 101, 118, 101, 114, 115, 101] }, { data := #[99, 111, 108, 117, 109, 110] }, { data := #[99, 111, 108, 117, 109, 110, 45, 114, 101, 118, 101, 114, 115, 101] }, { data := #[110, 111, 119, 114, 97, 112] }, { data := #[119, 114, 97, 112] }, { data := #[119, 114, 97, 112, 45, 114, 101, 118, 101, 114, 115, 101] }, { data := #[115, 116, 97, 114, 116] }, { data := #[101, 110, 100] }, { data := #[99, 101, 110, 116, 101, 114] }, { data := #[115, 116, 114, 101, 116, 99, 104] }, { data := #[115, 112, 97, 99, 101, 45, 98, 101, 116, 119, 101, 101, 110] }, { data := #[115, 112, 97, 99, 101, 45, 97, 114, 111, 117, 110, 100] }, { data := #[115, 112, 97, 99, 101, 45, 101, 118, 101, 110, 108, 121] }, { data := #[110, 111, 114, 109, 97, 108] }, { data := #[105, 110, 108, 105, 110, 101, 45, 115, 105, 122, 101] }, { data := #[115, 105, 122, 101] }, { data := #[99, 111, 110, 116, 101, 110, 116] }, { data := #[105, 110, 104, 101, 114, 105, 116] }, { data := #[105, 110, 105, 116, 105, 97, 108] }, { data := #[117, 110, 115, 101, 116] }]
def wordAt (i : Nat) : ByteArray := wordL.getD i { data := #[] }
def wordCells : Array Value := #[.string { data := #[] }, .string { data := #[97, 117, 116, 111] }, .string { data := #[110, 111, 110, 101] }, .string { data := #[98, 108, 111, 99, 107] }, .string { data := #[102, 108, 101, 120] }, .string { data := #[99, 111, 110, 116, 101, 110, 116, 45, 98, 111, 120] }, .string { data := #[98, 111, 114, 100, 101, 114, 45, 98, 111, 120] }, .string { data := #[109, 105, 110, 45, 99, 111, 110, 116, 101, 110, 116] }, .string { data := #[109, 97, 120, 45, 99, 111, 110, 116, 101, 110, 116] }, .string { data := #[102, 105, 116, 45, 99, 111, 110, 116, 101, 110, 116] }, .string { data := #[114, 111, 119] }, .string { data := #[114, 111, 119, 45, 114, 101, 118, 101, 114, 115, 101] }, .string { data := #[99, 111, 108, 117, 109, 110] }, .string { data := #[99, 111, 108, 117, 109, 110, 45, 114, 101, 118, 101, 114, 115, 101] }, .string { data := #[110, 111, 119, 114, 97, 112] }, .string { data := #[119, 114, 97, 112] }, .string { data := #[119, 114, 97, 112, 45, 114, 101, 118, 101, 114, 115, 101] }, .string { data := #[115, 116, 97, 114, 116] }, .string { data := #[101, 110, 100] }, .string { data := #[99, 101, 110, 116, 101, 114] }, .string { data := #[115, 116, 114, 101, 116, 99, 104] }, .string { data := #[115, 112, 97, 99, 101, 45, 98, 101, 116, 119, 101, 101, 110] }, .string { data := #[115, 112, 97, 99, 101, 45, 97, 114, 111, 117, 110, 100] }, .string { data := #[115, 112, 97, 99, 101, 45, 101, 118, 101, 110, 108, 121] }, .string { data := #[110, 111, 114, 109, 97, 108] }, .string { data := #[105, 110, 108, 105, 110, 101, 45, 115, 105, 122, 101] }, .string { data := #[115, 105, 122, 101] }, .string { data := #[99, 111, 110, 116, 101, 110, 116] }, .string { data := #[105, 110, 104, 101, 114, 105, 116] }, .string { data := #[105, 110, 105, 116, 105, 97, 108] }, .string { data := #[117, 110, 115, 101, 116] }]

set_option maxHeartbeats 4000000 in
theorem RWords9_any (w : World) : Calls Try.prog 76 #[] w fun e w' => e = .returned (.slice (some ⟨w.heap.size, 0, none⟩) 31 31) ∧ Blk w' w.heap.size 9 wordCells ∧ Below w.heap.size w w' := by
  go_enter Try.func76, Try.ntmps76
  go_wp2_with fail
  go_ret
  exact ⟨rfl, Blk.new _ _ _, below_alloc (Below.refl _ _) _⟩

theorem word_cell {w : World} {g : Nat} (hb : Blk w g 9 wordCells) (j : Nat) (hj : j < 31) : w.cell? ⟨g, j, none⟩ = some (.string (wordAt j)) := by
  rw [hb.cell j]
  have e : wordCells = (wordL.map Value.string).toArray := rfl
  have hl : wordL.length = 31 := rfl
  have h2 : wordL[j]? = some wordL[j] := List.getElem?_eq_getElem _
  rw [e, List.getElem?_toArray, List.getElem?_map, h2]
  unfold wordAt
  rw [List.getD_eq_getElem?_getD, h2]
  rfl

set_option maxHeartbeats 4000000 in
theorem RPlace9_any (K : Nat) (hK : 1 ≤ K ∧ K < 31) (hn : ∀ j, 1 ≤ j → j < K → ((wordAt j).toList == (wordAt K).toList) = false) (w : World) (g : Nat) (hb : Blk w g 9 wordCells) :
    Calls Try.prog 85 #[.slice (some ⟨g, 0, none⟩) 31 31, .string (wordAt K)] w fun e w' => e = .returned (.int .i64 K) ∧ w = w' := by
  have hc := word_cell hb
  have HC := Lib.hid hc
  have HN := Lib.hid hn
  have hk1 := hK.1
  have hk2 := hK.2
  have hck := hc K hk2
  generalize hs : wordAt K = s at *
  clear hc hn hK
  go_enter Try.func85, Try.ntmps85
  go_wp2_with fail
  go_loop [5] (fun v5 => ∃ j : Nat, 1 ≤ j ∧ j ≤ K ∧ v5 = .int .i64 j) (fun v5 => 31 - (intOf v5).toNat)
  case atStart => exact ⟨1, by omega, by omega, rfl⟩
  case round =>
    obtain ⟨j, h1, h2, rfl⟩ := hrel
    have c1 := HC.out j (by omega)
    by_cases hj : j = K
    · subst hj
      rw [hs] at c1
      go_wp2_with fail
      go_ret
      exact ⟨rfl, rfl⟩
    · have hne := HN.out j h1 (by omega)
      generalize wordAt j = s2 at *
      go_wp2_with fail
      exact ⟨⟨j + 1, by omega, by omega, by go_num⟩, by simp [intOf]; omega⟩

set_option maxHeartbeats 4000000 in
theorem RWord_any (K : Nat) (hK : 1 ≤ K ∧ K < 31) (hn : ∀ j, 1 ≤ j → j < K → ((wordAt j).toList == (wordAt K).toList) = false) (w : World) :
    Calls Try.prog 83 #[.string (wordAt K)] w fun e w' => e = .returned (.agg #[.int .i64 1, .int .i64 K, .int .i64 0, .string { data := #[] }]) ∧ Below w.heap.size w w' := by
  have hp := RPlace9_any K hK hn
  generalize wordAt K = s at *
  clear hn
  go_enter Try.func83, Try.ntmps83
  go_wp2_with fail
  refine (RWords9_any _).mono ?_; rintro e w2 ⟨rfl, hbw, hb2⟩
  have hbt := (Blk.new w 72 #[.int .i64 0, .int .i64 0, .int .i64 0, .string { data := #[] }]).then_ hb2
  have HB := Lib.hid (below_then (below_alloc (Below.refl w.heap.size w) (.cells #[.int .i64 0, .int .i64 0, .int .i64 0, .string { data := #[] }] 72)) hb2)
  have y0 : w2.cell? ⟨w.heap.size, 0, none⟩ = some (.int .i64 0) := hbt.cell 0
  have z0 : w2.frozen? ⟨w.heap.size, 0, none⟩ = false := hbt.frozen 0
  have y1 : w2.cell? ⟨w.heap.size, 1, none⟩ = some (.int .i64 0) := hbt.cell 1
  have z1 : w2.frozen? ⟨w.heap.size, 1, none⟩ = false := hbt.frozen 1
  have y2 : w2.cell? ⟨w.heap.size, 2, none⟩ = some (.int .i64 0) := hbt.cell 2
  have z2 : w2.frozen? ⟨w.heap.size, 2, none⟩ = false := hbt.frozen 2
  have y3 : w2.cell? ⟨w.heap.size, 3, none⟩ = some (.string { data := #[] }) := hbt.cell 3
  have z3 : w2.frozen? ⟨w.heap.size, 3, none⟩ = false := hbt.frozen 3
  have HBT := Lib.hid hbt
  clear hb2 hbt
  have hsz : (w.alloc (.cells #[.int .i64 0, .int .i64 0, .int .i64 0, .string { data := #[] }] 72)).heap.size = w.heap.size + 1 := by simp
  rw [hsz] at hbw
  rw [hsz]
  clear hsz
  have HP := Lib.hid (hp w2 _ hbw)
  clear hbw hp
  go_wp2_with fail
  refine HP.out.mono ?_; rintro e w3 ⟨rfl, rfl⟩
  go_wp2_with fail
  exact bodyPost_ret (v := .agg #[.int .i64 1, .int .i64 K, .int .i64 0, .string { data := #[] }]) (results_cell rfl rfl ((((HBT.out.put 0 (.int .i64 1)).put 1 (.int .i64 K)).put 2 (.int .i64 0)).put 3 (.string { data := #[] })) Try.underlying72 rfl (by kernel_rfl)) rfl
    ⟨rfl, below_set (below_set (below_set (below_set HB.out (Nat.le_refl _) _) (Nat.le_refl _) _) (Nat.le_refl _) _) (Nat.le_refl _) _⟩

end Go.Proofs.Ytdddlnemlpgnlaa
