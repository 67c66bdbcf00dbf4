/- Lists of numbers held against each other. -/
import Derived.Test.YtndpblgedpdjdaaRDeal
namespace Go.Proofs.Ytndpblgedpdjdaa
open Go.Shelf Go.RowKit Go.Lib Go.Sort
set_option linter.unusedSimpArgs false
set_option linter.unusedVariables false

set_option maxHeartbeats 2000000 in
theorem RInts_same (a1 a2 : Option Addr) (cap1 cap2 n : Nat) (f g : Nat → Int) (hfg : ∀ i, i < n → f i = g i) (hn : n ≤ 1048576) (w : World) (h1 : Sl w a1 n f) (h2 : Sl w a2 n g) :
    Calls Try.prog 14 #[.slice a1 n cap1, .slice a2 n cap2] w fun e w' => e = .returned (.bool true) ∧ Below w.heap.size w w' := by
  have H1 := Lib.hid h1
  have H2 := Lib.hid h2
  have HFG := Lib.hid hfg
  clear h1 h2 hfg
  go_enter Try.func14, Try.ntmps14
  go_wp2_with fail
  go_loopw [5] (fun v5 wr => ∃ k : Nat, k ≤ n ∧ v5 = .int .i64 k ∧ Below w.heap.size w wr) (fun v5 _ => n - (intOf v5).toNat)
  case atStart => exact ⟨0, Nat.zero_le _, rfl, Below.refl _ _⟩
  case round =>
    obtain ⟨k, hk, rfl, hb⟩ := hrel
    by_cases hlt : k < n
    · obtain ⟨b1, o1, rfl, hN1⟩ := (H1.out.below hb).at hlt
      obtain ⟨b2, o2, rfl, hN2⟩ := (H2.out.below hb).at hlt
      have c1 := hN1.2 k hlt
      have c2 := hN2.2 k hlt
      rw [← HFG.out k hlt] at c2
      have kz : (k : Int) < (n : Int) := by omega
      have HB := Lib.hid hb
      clear hb hN1 hN2
      generalize f k = x at c1 c2
      go_wp2_with fail
      go_quiet (fail)
      go_wp2_with fail
      go_roundw
      case rel => exact ⟨k + 1, hlt, by go_num, below_drawn HB.out _⟩
      case measure => simp [intOf]; omega
    · obtain rfl : k = n := by omega
      have HB := Lib.hid hb
      clear hb
      go_wp2_with fail
      go_ret
      exact ⟨rfl, HB.out⟩

/-- A list's numbers in a new block. -/
theorem nums_lit (w : World) (l : List Int) : Sl (w.alloc (.cells (l.map (Value.int .i64)).toArray 3)) (some ⟨w.heap.size, 0, none⟩) l.length (fun i => l.getD i 0) := by
  refine .inr ⟨w.heap.size, 0, rfl, by simp, fun i hi => ?_⟩
  have h := (Blk.new w 3 (l.map (Value.int .i64)).toArray).cell i
  rw [Nat.zero_add, h]
  simp [List.getD, hi]

end Go.Proofs.Ytndpblgedpdjdaa
