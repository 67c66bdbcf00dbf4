/- The law FlexlineWishes, walked. -/
import Derived.Test.YtndpblgedpdjdaaFlexLawA
import Derived.Test.YtndpblgedpdjdaaFlexLaws
namespace Go.Proofs.Ytndpblgedpdjdaa
open Go.RowKit
set_option linter.unusedSimpArgs false
set_option linter.unusedVariables false
attribute [local go_sem] cell?_ext frozen?_ext lt_size_ext

/-- An item that has no factors. -/
def It.dull (t : It) : It := ⟨t.base, t.least, t.most, t.margin, t.inner, 0, 0⟩
theorem dull_done (L : Nat → It) (n : Nat) (room : Int) : resD (fun i => (L i).dull) n room 0 := Fx.wishes_done fun i _ => by unfold It.fac; split <;> rfl
theorem dull_out (L : Nat → It) (n : Nat) (room : Int) : ∀ i, i < n → resF (fun i => (L i).dull) n room 0 i = (L i).held.wish := fun i hi => by
  have h := Fx.wishes_out (L := fun i => ((L i).dull).held) (g := Fx.grows (fun i => ((L i).dull).held) n (hold room)) (n := n) (R := hold room) (first := Fx.free (fun i => ((L i).dull).held) (Fx.st0 (fun i => ((L i).dull).held) (Fx.grows (fun i => ((L i).dull).held) n (hold room))) n (hold room)) (fun i _ => by unfold It.fac; split <;> rfl) hi
  exact h

/-- Of an append of one item that lies behind another block. -/
theorem item_news (w : World) (A : Obj) (t : It) (e : TypeId) : ∀ j u, t.cells[j]? = some u → ((w.alloc A).alloc (.cells #[.int .i64 t.base, .int .i64 t.least, .int .i64 t.most, .int .i64 t.margin, .int .i64 t.inner, .int .i64 t.grow, .int .i64 t.shrink] e)).cell? ((⟨w.heap.size + 1, 0, none⟩ : Addr).add j) = some u := by
  intro j u hj
  have e1 : (⟨w.heap.size + 1, 0, none⟩ : Addr).add j = ⟨w.heap.size + 1, j, none⟩ := by
    unfold Addr.add; split
    · rename_i h0; rw [h0]
    · simp
  have hk := (Blk.new (w.alloc A) e #[.int .i64 t.base, .int .i64 t.least, .int .i64 t.most, .int .i64 t.margin, .int .i64 t.inner, .int .i64 t.grow, .int .i64 t.shrink]).cell j
  simp only [World.size_alloc] at hk
  rw [e1, hk]
  simpa [It.cells] using hj
theorem item_one (t : It) : ∀ u ∈ t.cells, u.oneCell' = true := by
  intro u hu
  simp [It.cells] at hu
  rcases hu with rfl | rfl | rfl | rfl | rfl | rfl | rfl <;> rfl

set_option maxRecDepth 20000 in
set_option maxHeartbeats 4000000 in
theorem Wishes_walk (ao : Option Addr) (cap n : Nat) (L : Nat → It) (room : Int) (w : World) (hS : Its w ao n L) :
    Calls Try.prog 4 #[.slice ao n cap, .int .i64 room] w fun e w' => e = .returned (.bool true) ∧ Below w.heap.size w w' := by
  have HS := Lib.hid hS
  clear hS
  have hfew := few_any ao cap n
  by_cases hn : n ≤ 60
  · obtain ⟨i0, hi, hz0, hz1, hz2⟩ := info_parts item_info
    have hof := fun w' (hb : Below w.heap.size w w') => of_any ao cap n L (by omega) w' (HS.out.below hb)
    have hres := fun ao cap w hS => Res_any ao cap n (fun i => (L i).dull) room 0 (by omega) (dull_done L n room) w hS
    have hwo := dull_out L n room
    generalize resF (fun i => (L i).dull) n room 0 = f at *
    have HOF := Lib.hid hof
    have HRES := Lib.hid hres
    have HWO := Lib.hid hwo
    rw [decide_eq_true hn] at hfew
    have HFEW := Lib.hid hfew
    have hz : ((n : Int) != (n : Int)) = false := by simp
    clear hfew hof hres hwo
    go_enter Try.func4, Try.ntmps4
    go_wp2_with fail
    refine (HFEW.out _).mono ?_; rintro e w' ⟨rfl, rfl⟩
    go_wp2_with fail
    go_loopw [5, 6] (fun v5 v6 wr => ∃ k : Nat, k ≤ n ∧ v6 = .int .i64 k ∧ wr.ownsRow w.heap.size 34 7 v5 k (itCells (fun i => (L i).dull) k) ∧ Below w.heap.size w wr) (fun _ v6 _ => n - (intOf v6).toNat)
    case atStart => exact ⟨0, Nat.zero_le _, rfl, World.ownsRow_nil _ _ _ _, Below.refl _ _⟩
    case round =>
      obtain ⟨k, hk, rfl, ho, hb⟩ := hrel
      by_cases hlt : k < n
      · obtain ⟨b, o, rfl, hbl, hN⟩ := (HS.out.below hb).at hlt
        have c0 := hN.c0
        have c1 := hN.c1
        have c2 := hN.c2
        have c3 := hN.c3
        have c4 := hN.c4
        have c5 := hN.c5
        have c6 := hN.c6
        have ho2 := (ho.alloc (.cells #[.int .i64 (L k).base, .int .i64 (L k).least, .int .i64 (L k).most, .int .i64 (L k).margin, .int .i64 (L k).inner, .int .i64 0, .int .i64 0] 34)).alloc (.cells #[.int .i64 (L k).base, .int .i64 (L k).least, .int .i64 (L k).most, .int .i64 (L k).margin, .int .i64 (L k).inner, .int .i64 0, .int .i64 0] 34)
        have hb2 := below_alloc (below_alloc hb (.cells #[.int .i64 (L k).base, .int .i64 (L k).least, .int .i64 (L k).most, .int .i64 (L k).margin, .int .i64 (L k).inner, .int .i64 0, .int .i64 0] 34)) (.cells #[.int .i64 (L k).base, .int .i64 (L k).least, .int .i64 (L k).most, .int .i64 (L k).margin, .int .i64 (L k).inner, .int .i64 0, .int .i64 0] 34)
        have hnw := item_news wr (.cells #[.int .i64 (L k).base, .int .i64 (L k).least, .int .i64 (L k).most, .int .i64 (L k).margin, .int .i64 (L k).inner, .int .i64 0, .int .i64 0] 34) (L k).dull 34
        have HO2 := Lib.hid ho2
        have HB2 := Lib.hid hb2
        have HNW := Lib.hid hnw
        clear hN ho hb ho2 hb2 hnw
        go_wp2_with ((at_builtin; refine wpList_append_own_at _ rfl (.tmp 28) (.tmp 30) _ rfl w.heap.size 34 i0 (.agg #[.int .i64 0, .int .i64 0, .int .i64 0, .int .i64 0, .int .i64 0, .int .i64 0, .int .i64 0]) 7 56 Try.underlying22 hi hz0 hz1 hz2 rfl (by decide) _ _ _ rfl HO2.out ⟨wr.heap.size + 1, 0, none⟩ 1 1 (L k).dull.cells rfl rfl ?c1 ?c2 ?c3 ?c4 HB2.out.size ?_))
        case c1 => exact HNW.out
        case c2 => exact item_one _
        case c3 => unfold maxLen; omega
        case c4 => omega
        intro v' w3 hown3 hg3 _ _
        have hb3 : Below w.heap.size w w3 := HB2.out.grown hg3 HB2.out.size fun k hk => (HO2.out.lt k hk).1
        have HO3 := Lib.hid hown3
        have HB3 := Lib.hid hb3
        clear hown3 hg3 hb3
        go_wp2_with fail
        go_roundw
        case rel => exact ⟨k + 1, hlt, by go_num, HO3.out, HB3.out⟩
        case measure => simp [intOf]; omega
      · obtain rfl : k = n := by omega
        obtain ⟨ao1, cap1, rfl, hI⟩ := Its.of_own ho
        have HI := Lib.hid hI
        have HB := Lib.hid hb
        clear ho hb hI
        go_wp2_with fail
        refine (HRES.out _ _ _ HI.out).mono ?_; rintro e w1 ⟨o1, rfl, ho1, hr1, hb1⟩
        have HR1 := Lib.hid hr1
        have HB1 := Lib.hid (below_then HB.out hb1)
        clear hr1 hb1
        go_wp2_with fail
        go_loopw [10] (fun v10 wr => ∃ j : Nat, j ≤ k ∧ v10 = .int .i64 j ∧ Below w1.heap.size w1 wr) (fun v10 _ => k - (intOf v10).toNat)
        case atStart => exact ⟨0, Nat.zero_le _, rfl, Below.refl _ _⟩
        case round =>
          obtain ⟨j, hj, rfl, hb⟩ := hrel
          by_cases hjk : j < k
          · have HBB := Lib.hid (below_then HB1.out hb)
            have hhe := fun w => RHeld_item (L j) w
            have hrw := fun w => RWish_any (L j).held w
            have hfw := fun w => Wish_any (L j) w
            have hfj := HWO.out j hjk
            have hne : (((L j).held.wish : Int) != (L j).held.wish) = false := by simp
            have HBW := Lib.hid hb
            generalize (L j).held.wish = wi at *
            unfold It.val at hhe hrw hfw
            have HFW := Lib.hid hfw
            have HFJ := Lib.hid hfj
            clear hb hfw hfj
            go_wp2_with fail
            refine (HOF.out _ HBB.out).mono ?_; rintro e w2 ⟨ao2, cap2, rfl, ho2, hb2⟩
            obtain ⟨ao2', cap2', he, hI⟩ := Its.of_own ho2
            cases he
            obtain ⟨b2, o2, rfl, hbl, hN⟩ := hI.at hjk
            have c0 := hN.c0
            have c1 := hN.c1
            have c2 := hN.c2
            have c3 := hN.c3
            have c4 := hN.c4
            have c5 := hN.c5
            have c6 := hN.c6
            have HB2 := Lib.hid hb2
            clear hN hI ho2 hb2
            go_wp2_with fail
            refine (hhe _).mono ?_; rintro e w3 ⟨rfl, hb3⟩
            have HB3 := Lib.hid hb3
            clear hb3 c0 c1 c2 c3 c4 c5 c6 hbl
            go_wp2_with fail
            refine (hrw _).mono ?_; rintro e w4 ⟨rfl, hb4⟩
            have HB4 := Lib.hid (below_then (below_then HB2.out HB3.out) hb4)
            have hIt := HS.out.below (below_then HBB.out HB4.out)
            obtain ⟨b, o, rfl, hbl, hN⟩ := hIt.at hjk
            have c0 := hN.c0
            have c1 := hN.c1
            have c2 := hN.c2
            have c3 := hN.c3
            have c4 := hN.c4
            have c5 := hN.c5
            have c6 := hN.c6
            clear hb4 hIt hN
            go_wp2_with fail
            refine (HFW.out _).mono ?_; rintro e w5 ⟨rfl, hb5⟩
            have HB5 := Lib.hid (below_then (below_then HBW.out HB4.out) hb5)
            have hr := HR1.out.of_block (HB5.out.block o1 HR1.out.lt)
            have d0 := hr.cell hjk
            rw [HFJ.out] at d0
            clear hb5 hr c0 c1 c2 c3 c4 c5 c6 hbl
            go_wp2_with fail
            go_roundw
            case rel => exact ⟨j + 1, hjk, by go_num, HB5.out⟩
            case measure => simp [intOf]; omega
          · obtain rfl : j = k := by omega
            have HB2 := Lib.hid (below_then HB1.out hb)
            clear hb
            go_wp2_with fail
            refine (known_any _).mono ?_; rintro e w5 ⟨rfl, hb5⟩
            have HB5 := Lib.hid (below_then HB2.out hb5)
            clear hb5
            go_wp2_with fail
            go_ret
            exact ⟨rfl, HB5.out⟩
  · rw [decide_eq_false hn] at hfew
    have HFEW := Lib.hid hfew
    clear hfew
    go_enter Try.func4, Try.ntmps4
    go_wp2_with fail
    refine (HFEW.out _).mono ?_; rintro e w' ⟨rfl, rfl⟩
    go_wp2_with fail
    refine (known_any _).mono ?_; rintro e w5 ⟨rfl, hb5⟩
    have HB5 := Lib.hid hb5
    clear hb5
    go_wp2_with fail
    go_ret
    exact ⟨rfl, HB5.out⟩

end Go.Proofs.Ytndpblgedpdjdaa
