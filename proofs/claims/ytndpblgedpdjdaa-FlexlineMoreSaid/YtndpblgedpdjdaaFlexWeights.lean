/- What the open items weigh. -/
import Derived.Test.YtndpblgedpdjdaaFlexPart
namespace Go.Proofs.Ytndpblgedpdjdaa
open Go.RowKit
set_option linter.unusedSimpArgs false
set_option linter.unusedVariables false
attribute [local go_sem] cell?_ext frozen?_ext lt_size_ext

theorem made_ints (n : Nat) (hn : n ≤ 1048576) (w : World) : (Instr.makeSlice 25 (.int .i64 0) (.int .i64 (n : Int))).run Try.prog w =
    .ok (.slice (some ⟨w.heap.size, 0, none⟩) 0 n) (w.alloc (.cells (madeCells #[.int .i64 0] (n * 1)) 3)) := by
  obtain ⟨i0, hi, hz0, hz1, hz2⟩ := info_parts int_info
  have h := run_make (P := Try.prog) w 25 3 i0 _ Try.underlying25 hi hz0 .i64 .i64 0 n (Int.le_refl _) (by omega) (by rw [hz2]; omega) (by omega)
  rw [hz1] at h
  exact h

/-- The first k numbers of a function, as cells. -/
def fCells (f : Nat → Int) : Nat → List Value
  | 0 => []
  | k + 1 => fCells f k ++ [.int .i64 (f k)]
theorem fCells_length (f : Nat → Int) : ∀ k, (fCells f k).length = k
  | 0 => rfl
  | k + 1 => by unfold fCells; rw [List.length_append, fCells_length f k]; rfl
theorem fCells_at (f : Nat → Int) : ∀ k i, i < k → (fCells f k)[i]? = some (.int .i64 (f i))
  | 0, i, h => absurd h (Nat.not_lt_zero _)
  | k + 1, i, h => by
    unfold fCells
    by_cases e : i < k
    · rw [List.getElem?_append_left (by rw [fCells_length]; exact e)]; exact fCells_at f k i e
    · obtain rfl : i = k := by omega
      rw [List.getElem?_append_right (by rw [fCells_length]; exact Nat.le_refl _), fCells_length, Nat.sub_self]; rfl

set_option maxRecDepth 20000 in
set_option maxHeartbeats 4000000 in
theorem weights_any (p : Nat) (ao ao2 : Option Addr) (cap cap2 b1 b2 n m : Nat) (L : Nat → It) (S : St) (R : Int) (g : Bool) (hn : n ≤ 65536)
    (hm : m = (Sh.opens n S.fz).length) (w0 w : World) (hS : FxLine w0 w p ao cap b1 b2 n L R g S.out S.fz) (hO : Sl w ao2 m (opF n S.fz)) :
    Calls Try.prog 28 #[.pointer (some ⟨p, 0, none⟩), .slice ao2 m cap2] w (ListOut w m (Sh.pick n S.fz (Fx.wF L g S))) := by
  obtain ⟨i0, hi, hz0, hz1, hz2⟩ := info_parts int_info
  have hmn : m ≤ n := by rw [hm]; exact Sh.opens_le n _
  have hmk := made_ints m (by omega)
  have HS := Lib.hid hS
  have HO := Lib.hid hO
  have HM := Lib.hid hm
  have q2 := hS.blk.cell 2
  have hwx : ∀ i w, Calls Try.prog (if g = true then 47 else 46) #[(L i).val] w fun e w' => e = .returned (.int .i64 ((L i).wei g)) ∧ Below w.heap.size w w' := fun i w => by
    cases g with
    | true => exact grows_any (L i) w
    | false => exact shrinks_any (L i) w
  have HWX := Lib.hid hwx
  clear hS hO hm hwx
  go_enter Try.func28, Try.ntmps28
  cases hg : g with
  | true =>
    rw [hg] at q2 HWX
    have HWX : Hid (∀ i w, Calls Try.prog 47 #[(L i).val] w fun e w' => e = .returned (.int .i64 ((L i).wei true)) ∧ Below w.heap.size w w') := Lib.hid fun i w => HWX.out i w
    go_wp2_with fail
    clear hmk q2
    have ho0 := World.ownsRow_made (base := w.heap.size) (e := 3) (size := 1) w (madeCells #[.int .i64 0] m) m (Nat.le_refl _) (by unfold maxLen; omega) (by rw [size_madeCells, Nat.mul_one])
    have hb0 := below_alloc (Below.refl w.heap.size w) (.cells (madeCells #[.int .i64 0] m) 3)
    have HO0 := Lib.hid ho0
    have HB0 := Lib.hid hb0
    clear ho0 hb0
    go_loopw [6, 18] (fun v6 v18 wr => ∃ k : Nat, k ≤ m ∧ v18 = .int .i64 k ∧ wr.ownsRow w.heap.size 3 1 v6 k (fCells (Sh.pick n S.fz (Fx.wF L true S)) k) ∧ Below w.heap.size w wr) (fun _ v18 _ => m - (intOf v18).toNat)
    case atStart => exact ⟨0, Nat.zero_le _, rfl, HO0.out, HB0.out⟩
    case round =>
      clear HO0 HB0
      obtain ⟨k, hk, rfl, ho, hb⟩ := hrel
      by_cases hlt : k < m
      · have hS := HS.out.then_ hb
        have q0 := hS.blk.cell 0
        obtain ⟨i, hi', hzi, hoi, he, -⟩ := opF_at (n := n) (fz := S.fz) (k := k) (by have := HM.out; omega)
        obtain ⟨b3, o3, rfl, hN3⟩ := (HO.out.below hb).at hlt
        have d0 := hN3.2 k hlt
        rw [hoi] at d0
        obtain ⟨b, o, rfl, hbl, hN⟩ := hS.rows.its.at hi'
        have c0 := hN.c0
        have c1 := hN.c1
        have c2 := hN.c2
        have c3 := hN.c3
        have c4 := hN.c4
        have c5 := hN.c5
        have c6 := hN.c6
        have hwe : Fx.wF L true S i = (L i).wei true := by unfold Fx.wF; rw [if_neg (by rw [hzi]; simp)]
        have HE : Hid (fCells (Sh.pick n S.fz (Fx.wF L true S)) (k + 1) = fCells (Sh.pick n S.fz (Fx.wF L true S)) k ++ [.int .i64 ((L i).wei true)]) := Lib.hid (by rw [← hwe, ← he (Fx.wF L true S)]; rfl)
        have hh := fun w => HWX.out i w
        have HO1 := Lib.hid ho
        have HB := Lib.hid hb
        generalize (L i).wei true = we at *
        unfold It.val at hh
        clear hN hN3 hS hb hoi he hzi ho hwe
        go_wp2_with fail
        refine (hh _).mono ?_; rintro e w2 ⟨rfl, hb2⟩
        have ho2 := (own_then HO1.out hb2).alloc (.cells #[.int .i64 we] 3)
        have hnx : w.heap.size ≤ (w2.alloc (.cells #[.int .i64 we] 3)).heap.size := by
          have h1 := HB.out.size; have h2 := hb2.size; simp; omega
        have HO2 := Lib.hid ho2
        have HNX := Lib.hid hnx
        have HB2 := Lib.hid hb2
        clear ho2 hnx hb2
        go_wp2_with ((at_builtin; refine wpList_append_own_at _ rfl (.tmp 22) (.tmp 32) _ rfl w.heap.size 3 i0 (.int .i64 0) 1 8 Try.underlying25 hi hz0 hz1 hz2 rfl (by decide) _ _ _ rfl HO2.out ⟨w2.heap.size, 0, none⟩ 1 1 [.int .i64 we] rfl rfl ?c1 ?c2 ?c3 ?c4 HNX.out ?_))
        case c1 => exact cell_one_new _ _ _
        case c2 =>
          intro u hu
          simp at hu
          subst hu; rfl
        case c3 => unfold maxLen; omega
        case c4 => omega
        intro v' w3 hown3 hg3 _ _
        have hb3 : Below w.heap.size w w3 := (below_alloc (below_then HB.out HB2.out) _).grown hg3 HNX.out fun k hk => (HO2.out.lt k hk).1
        have HO3 := Lib.hid hown3
        have HB3 := Lib.hid hb3
        clear hown3 hg3 hb3
        go_wp2_with fail
        go_roundw
        case rel => exact ⟨k + 1, hlt, by go_num, by rw [HE.out]; exact HO3.out, HB3.out⟩
        case measure => simp [intOf]; omega
      · obtain rfl : k = m := by omega
        obtain ⟨ao', cap', rfl, hs, hf⟩ := Sl.of_own (f := Sh.pick n S.fz (Fx.wF L true S)) ho (fun i hi => fCells_at _ _ _ hi)
        have HO := Lib.hid hs
        have HF := Lib.hid hf
        have HB := Lib.hid hb
        clear ho hb hs hf
        go_wp2_with fail
        go_ret
        exact ⟨ao', cap', rfl, HO.out, HF.out, HB.out⟩
  | false =>
    rw [hg] at q2 HWX
    have HWX : Hid (∀ i w, Calls Try.prog 46 #[(L i).val] w fun e w' => e = .returned (.int .i64 ((L i).wei false)) ∧ Below w.heap.size w w') := Lib.hid fun i w => HWX.out i w
    go_wp2_with fail
    clear hmk q2
    have ho0 := World.ownsRow_made (base := w.heap.size) (e := 3) (size := 1) w (madeCells #[.int .i64 0] m) m (Nat.le_refl _) (by unfold maxLen; omega) (by rw [size_madeCells, Nat.mul_one])
    have hb0 := below_alloc (Below.refl w.heap.size w) (.cells (madeCells #[.int .i64 0] m) 3)
    have HO0 := Lib.hid ho0
    have HB0 := Lib.hid hb0
    clear ho0 hb0
    go_loopw [6, 18] (fun v6 v18 wr => ∃ k : Nat, k ≤ m ∧ v18 = .int .i64 k ∧ wr.ownsRow w.heap.size 3 1 v6 k (fCells (Sh.pick n S.fz (Fx.wF L false S)) k) ∧ Below w.heap.size w wr) (fun _ v18 _ => m - (intOf v18).toNat)
    case atStart => exact ⟨0, Nat.zero_le _, rfl, HO0.out, HB0.out⟩
    case round =>
      clear HO0 HB0
      obtain ⟨k, hk, rfl, ho, hb⟩ := hrel
      by_cases hlt : k < m
      · have hS := HS.out.then_ hb
        have q0 := hS.blk.cell 0
        obtain ⟨i, hi', hzi, hoi, he, -⟩ := opF_at (n := n) (fz := S.fz) (k := k) (by have := HM.out; omega)
        obtain ⟨b3, o3, rfl, hN3⟩ := (HO.out.below hb).at hlt
        have d0 := hN3.2 k hlt
        rw [hoi] at d0
        obtain ⟨b, o, rfl, hbl, hN⟩ := hS.rows.its.at hi'
        have c0 := hN.c0
        have c1 := hN.c1
        have c2 := hN.c2
        have c3 := hN.c3
        have c4 := hN.c4
        have c5 := hN.c5
        have c6 := hN.c6
        have hwe : Fx.wF L false S i = (L i).wei false := by unfold Fx.wF; rw [if_neg (by rw [hzi]; simp)]
        have HE : Hid (fCells (Sh.pick n S.fz (Fx.wF L false S)) (k + 1) = fCells (Sh.pick n S.fz (Fx.wF L false S)) k ++ [.int .i64 ((L i).wei false)]) := Lib.hid (by rw [← hwe, ← he (Fx.wF L false S)]; rfl)
        have hh := fun w => HWX.out i w
        have HO1 := Lib.hid ho
        have HB := Lib.hid hb
        generalize (L i).wei false = we at *
        unfold It.val at hh
        clear hN hN3 hS hb hoi he hzi ho hwe
        go_wp2_with fail
        refine (hh _).mono ?_; rintro e w2 ⟨rfl, hb2⟩
        have ho2 := (own_then HO1.out hb2).alloc (.cells #[.int .i64 we] 3)
        have hnx : w.heap.size ≤ (w2.alloc (.cells #[.int .i64 we] 3)).heap.size := by
          have h1 := HB.out.size; have h2 := hb2.size; simp; omega
        have HO2 := Lib.hid ho2
        have HNX := Lib.hid hnx
        have HB2 := Lib.hid hb2
        clear ho2 hnx hb2
        go_wp2_with ((at_builtin; refine wpList_append_own_at _ rfl (.tmp 22) (.tmp 32) _ rfl w.heap.size 3 i0 (.int .i64 0) 1 8 Try.underlying25 hi hz0 hz1 hz2 rfl (by decide) _ _ _ rfl HO2.out ⟨w2.heap.size, 0, none⟩ 1 1 [.int .i64 we] rfl rfl ?c1 ?c2 ?c3 ?c4 HNX.out ?_))
        case c1 => exact cell_one_new _ _ _
        case c2 =>
          intro u hu
          simp at hu
          subst hu; rfl
        case c3 => unfold maxLen; omega
        case c4 => omega
        intro v' w3 hown3 hg3 _ _
        have hb3 : Below w.heap.size w w3 := (below_alloc (below_then HB.out HB2.out) _).grown hg3 HNX.out fun k hk => (HO2.out.lt k hk).1
        have HO3 := Lib.hid hown3
        have HB3 := Lib.hid hb3
        clear hown3 hg3 hb3
        go_wp2_with fail
        go_roundw
        case rel => exact ⟨k + 1, hlt, by go_num, by rw [HE.out]; exact HO3.out, HB3.out⟩
        case measure => simp [intOf]; omega
      · obtain rfl : k = m := by omega
        obtain ⟨ao', cap', rfl, hs, hf⟩ := Sl.of_own (f := Sh.pick n S.fz (Fx.wF L false S)) ho (fun i hi => fCells_at _ _ _ hi)
        have HO := Lib.hid hs
        have HF := Lib.hid hf
        have HB := Lib.hid hb
        clear ho hb hs hf
        go_wp2_with fail
        go_ret
        exact ⟨ao', cap', rfl, HO.out, HF.out, HB.out⟩

end Go.Proofs.Ytndpblgedpdjdaa
