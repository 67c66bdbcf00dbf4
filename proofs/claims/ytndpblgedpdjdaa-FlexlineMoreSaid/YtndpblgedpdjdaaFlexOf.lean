/- The law's items for the reference; the reference's sums over items. -/
import Derived.Test.YtndpblgedpdjdaaFlexMem
namespace Go.Proofs.Ytndpblgedpdjdaa
open Go.RowKit
set_option linter.unusedSimpArgs false
set_option linter.unusedVariables false
attribute [local go_sem] cell?_ext frozen?_ext lt_size_ext

set_option maxHeartbeats 4000000 in
theorem of_any (ao : Option Addr) (cap n : Nat) (L : Nat → It) (hn : n ≤ 65536) (w : World) (hS : Its w ao n L) :
    Calls Try.prog 13 #[.slice ao n cap] w (ItsOut w 36 n L) := by
  obtain ⟨i0, hi, hz0, hz1, hz2⟩ := info_parts ritem_info
  have HS := Lib.hid hS
  clear hS
  go_enter Try.func13, Try.ntmps13
  go_wp2_with fail
  go_loopw [3, 4] (fun v3 v4 wr => ∃ k : Nat, k ≤ n ∧ v4 = .int .i64 k ∧ wr.ownsRow w.heap.size 36 7 v3 k (itCells L k) ∧ Below w.heap.size w wr) (fun _ v4 _ => n - (intOf v4).toNat)
  case atStart => exact ⟨0, Nat.zero_le _, rfl, World.ownsRow_nil _ _ _ _, Below.refl _ _⟩
  case round =>
    obtain ⟨k, hk, rfl, ho, hb⟩ := hrel
    by_cases hlt : k < n
    · obtain ⟨b, o, rfl, hbl, hN⟩ := (HS.out.below hb).at hlt
      have c0 := hN.c0
      have c1 := hN.c1
      have c2 := hN.c2
      have c3 := hN.c3
      have c4 := hN.c4
      have c5 := hN.c5
      have c6 := hN.c6
      have ho2 := (ho.alloc (.cells #[.int .i64 (L k).base, .int .i64 (L k).least, .int .i64 (L k).most, .int .i64 (L k).margin, .int .i64 (L k).inner, .int .i64 (L k).grow, .int .i64 (L k).shrink] 34)).alloc
        (.cells #[.int .i64 (L k).base, .int .i64 (L k).least, .int .i64 (L k).most, .int .i64 (L k).margin, .int .i64 (L k).inner, .int .i64 (L k).grow, .int .i64 (L k).shrink] 36)
      have hb2 := below_alloc (below_alloc hb (.cells #[.int .i64 (L k).base, .int .i64 (L k).least, .int .i64 (L k).most, .int .i64 (L k).margin, .int .i64 (L k).inner, .int .i64 (L k).grow, .int .i64 (L k).shrink] 34))
        (.cells #[.int .i64 (L k).base, .int .i64 (L k).least, .int .i64 (L k).most, .int .i64 (L k).margin, .int .i64 (L k).inner, .int .i64 (L k).grow, .int .i64 (L k).shrink] 36)
      have HO2 := Lib.hid ho2
      have HB2 := Lib.hid hb2
      clear hN ho hb ho2 hb2
      go_wp2_with ((at_builtin; refine wpList_append_own_at _ rfl (.tmp 16) (.tmp 32) _ rfl w.heap.size 36 i0 (.agg #[.int .i64 0, .int .i64 0, .int .i64 0, .int .i64 0, .int .i64 0, .int .i64 0, .int .i64 0]) 7 56 Try.underlying29 hi hz0 hz1 hz2 rfl (by decide) _ _ _ rfl HO2.out ⟨wr.heap.size + 1, 0, none⟩ 1 1 (L k).cells rfl rfl ?c1 ?c2 ?c3 ?c4 HB2.out.size ?_))
      case c1 =>
        intro j u hj
        have e : (⟨wr.heap.size + 1, 0, none⟩ : Addr).add j = ⟨wr.heap.size + 1, j, none⟩ := by
          unfold Addr.add; split
          · rename_i h0; rw [h0]
          · simp
        have hk := (Blk.new (wr.alloc (.cells #[.int .i64 (L k).base, .int .i64 (L k).least, .int .i64 (L k).most, .int .i64 (L k).margin, .int .i64 (L k).inner, .int .i64 (L k).grow, .int .i64 (L k).shrink] 34)) 36 #[.int .i64 (L k).base, .int .i64 (L k).least, .int .i64 (L k).most, .int .i64 (L k).margin, .int .i64 (L k).inner, .int .i64 (L k).grow, .int .i64 (L k).shrink]).cell j
        simp only [World.size_alloc] at hk
        rw [e, hk]
        simpa [It.cells] using hj
      case c2 =>
        intro u hu
        simp [It.cells] at hu
        rcases hu with rfl | rfl | rfl | rfl | rfl | rfl | rfl <;> rfl
      case c3 => unfold maxLen; omega
      case c4 => omega
      intro v' w3 hown3 hg3 _ _
      have hb3 : Below w.heap.size w w3 := HB2.out.grown hg3 HB2.out.size fun k hk => (HO2.out.lt k hk).1
      have HO3 := Lib.hid hown3
      have HB3 := Lib.hid hb3
      clear hown3 hg3
      go_wp2_with fail
      go_roundw
      case rel => exact ⟨k + 1, hlt, by go_num, HO3.out, HB3.out⟩
      case measure => simp [intOf]; omega
    · obtain rfl : k = n := by omega
      obtain ⟨ao', cap', rfl, -⟩ := Its.of_own ho
      have HO := Lib.hid ho
      have HB := Lib.hid hb
      clear ho hb
      go_wp2_with fail
      go_ret
      exact ⟨ao', cap', rfl, HO.out, HB.out⟩

end Go.Proofs.Ytndpblgedpdjdaa
