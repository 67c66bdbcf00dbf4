/- The statements on shares turned and on equal shares: walks. -/
import Derived.Test.YtjgpakpofiblcaaShareLaws
namespace Go.Proofs.Ytjgpakpofiblcaa
open Go.Shelf Go.RowKit Go.Lib Go.Sort
set_option linter.unusedSimpArgs false
set_option linter.unusedVariables false

set_option maxHeartbeats 4000000 in
theorem ShareTurned_walk (total : Int) (ao : Option Addr) (cap n : Nat) (f : Nat → Int) (w : World) (hS : Sl w ao n f) :
    Calls Try.prog 7 #[.int .i64 total, .slice ao n cap] w fun e w' => e = .returned (.bool true) ∧ Below w.heap.size w w' := by
  by_cases hn : n ≤ 300
  · have HC1 := Lib.hid (Deal_any (hold total) ao cap n f (by omega) w hS)
    have HC2 := Lib.hid (fun w1 (hb1 : Below w.heap.size w w1) => Deal_any (-hold total) ao cap n f (by omega) w1 (hS.below hb1))
    have HT := Lib.hid (deal_turn total n f)
    have hb := hold_bd total
    have hne : ((n : Int) != (n : Int)) = false := by simp
    clear hS
    go_enter Try.func7, Try.ntmps7
    go_wp2_with fail
    refine (few_yes _ _ _ hn _).mono ?_; rintro e w' ⟨rfl, rfl⟩
    go_wp2_with fail
    refine (RHold_any _ _).mono ?_; rintro e w' ⟨rfl, rfl⟩
    go_wp2_with fail
    refine (HC1.out).mono ?_
    rintro e w1 ⟨o, rfl, ho, hr, hb1⟩
    have HR := Lib.hid hr
    have HB1 := Lib.hid hb1
    clear hr hb1 HC1
    go_wp2_with fail
    refine (HC2.out _ HB1.out).mono ?_
    rintro e w2 ⟨o2, rfl, ho2, hr2, hb2⟩
    have HR1 := Lib.hid (HR.out.of_block (hb2.block o HR.out.lt))
    have HR2 := Lib.hid hr2
    have HB2 := Lib.hid (below_then HB1.out hb2)
    clear hr2 hb2 HC2 HR HB1
    go_wp2_with fail
    go_loopw [8] (fun v8 wr => ∃ k : Nat, k ≤ n ∧ v8 = .int .i64 k ∧ wr.rowIs o 3 n (fun i => .int .i64 (deal (hold total) n f i)) ∧ wr.rowIs o2 3 n (fun i => .int .i64 (deal (-hold total) n f i)) ∧ Below w.heap.size w wr) (fun v8 _ => n - (intOf v8).toNat)
    case atStart => exact ⟨0, Nat.zero_le _, rfl, HR1.out, HR2.out, HB2.out⟩
    case round =>
      clear HR1 HR2 HB2
      obtain ⟨k, hk, rfl, hr, hq, hb⟩ := hrel
      by_cases hlt : k < n
      · have c1 := hr.cell hlt
        have c2 := hq.cell hlt
        have hbd := deal_bd (-hold total) n f (by omega) hlt
        rw [HT.out k] at c1
        have kz : (k : Int) < (n : Int) := by omega
        have HR := Lib.hid hr
        have HQ := Lib.hid hq
        have HB := Lib.hid hb
        clear hr hq hb
        generalize deal (-hold total) n f k = x at c1 c2 hbd
        go_wp2_with fail
        go_quiet (fail)
        go_wp2_with fail
        go_roundw
        case rel => exact ⟨k + 1, hlt, by go_num, HR.out.of_block rfl, HQ.out.of_block rfl, below_drawn HB.out _⟩
        case measure => simp [intOf]; omega
      · obtain rfl : k = n := by omega
        have HB := Lib.hid hb
        clear hr hq hb
        go_wp2_with fail
        refine (known_any _).mono ?_
        rintro e w4 ⟨rfl, hb4⟩
        have HB4 := Lib.hid (below_then HB.out hb4)
        clear hb4
        go_wp2_with fail
        go_ret
        exact ⟨rfl, HB4.out⟩
  · clear hS
    go_enter Try.func7, Try.ntmps7
    go_wp2_with fail
    refine (few_no _ _ _ hn _).mono ?_; rintro e w' ⟨rfl, rfl⟩
    go_wp2_with fail
    refine (known_any _).mono ?_
    rintro e w4 ⟨rfl, hb4⟩
    have HB4 := Lib.hid (hb4)
    clear hb4
    go_wp2_with fail
    go_ret
    exact ⟨rfl, HB4.out⟩

set_option maxHeartbeats 4000000 in
theorem ShareEvens_low (total : Int) (x : Int) (hx : x < 0) (ao : Option Addr) (cap n : Nat) (f : Nat → Int) (w : World) (hm : n ≤ maxLen) (hS : Sl w ao n f) :
    Calls Try.prog 8 #[.int .i64 total, .int .i64 x, .slice ao n cap] w fun e w' => e = .returned (.bool true) ∧ Below w.heap.size w w' := by
  have hEN : evenN x = 0 := by unfold evenN; omega
  have HEV := Lib.hid (Even_any total x)
  rw [hEN] at HEV
  have hmk : ∀ w, (Instr.makeSlice 22 (.int .i64 0) (.int .i64 0)).run Try.prog w = .ok (.slice (some ⟨w.heap.size, 0, none⟩) 0 0) (w.alloc (.cells (madeCells #[.int .i64 0] 0) 3)) :=
    run_make_row' (P := Try.prog) 22 3 (.int .i64 0) 8 Try.underlying22 int_info rfl .i64 .i64 0 (by omega) (by omega)
  have HSL := Lib.hid hS
  have HRD := Lib.hid (fun w1 (o : Nat) (hr : w1.rowIs o 3 0 (fun _ => .int .i64 1)) => RDeal_any total (some ⟨o, 0, none⟩) 0 0 (fun _ => 1) (by omega) w1 (Sl.row hr))

  clear hS hEN
  go_enter Try.func8, Try.ntmps8
  go_wp2_with fail
  have HR0 := Lib.hid (World.rowIs_made w (.int .i64 0) 0 3)
  clear hmk
  go_loopw [9] (fun v9 wr => ∃ k : Nat, k ≤ 0 ∧ v9 = .int .i64 k ∧ wr.rowIs w.heap.size 3 0 (fun i => .int .i64 (if i < k then 1 else 0)) ∧ Below w.heap.size w wr) (fun v9 _ => 0 - (intOf v9).toNat)
  case atStart => exact ⟨0, Nat.zero_le _, rfl, HR0.out.congr (fun i hi => by simp), (Below.refl _ w).alloc (Nat.le_refl _) _⟩
  case round =>
    clear HR0
    obtain ⟨k, hkn, rfl, hr, hb⟩ := hrel
    by_cases hlt : k < 0
    · omega
    · have hkk : k = 0 := by omega
      have kz : ¬ (k : Int) < 0 := by omega
      have hr1 : wr.rowIs w.heap.size 3 0 (fun i => .int .i64 1) := hr.congr (fun i hi => by rw [if_pos (by omega)])
      have HR := Lib.hid hr1
      have HB := Lib.hid hb
      clear hr hb hr1 hkk
      go_wp2_with fail
      refine (HEV.out _).mono ?_
      rintro e w1 ⟨o1, rfl, ho1, hr1, hb1⟩
      have HR1 := Lib.hid hr1
      have HR' := Lib.hid (HR.out.of_block (hb1.block _ HR.out.lt))
      have HB1 := Lib.hid (below_then HB.out hb1)
      clear hr1 hb1 HEV HR HB
      go_wp2_with fail
      refine (HRD.out _ _ HR'.out).mono ?_
      rintro e w2 ⟨o2, rfl, ho2, hr2, hb2⟩
      have HI := Lib.hid (RInts_same (some ⟨o1, 0, none⟩) (some ⟨o2, 0, none⟩) 0 0 0 _ _ (fun i hi => rfl) (by omega) _ ((Sl.row HR1.out).below hb2) (Sl.row hr2))
      have HB2 := Lib.hid (below_then HB1.out hb2)
      clear hr2 hb2 HRD HR1 HR'
      go_wp2_with fail
      refine (HI.out).mono ?_
      rintro e w3 ⟨rfl, hb3⟩
      have HB3 := Lib.hid (below_then HB2.out hb3)
      clear hb3 HI
      go_wp2_with fail
      refine (Sum_any ao cap n f hm _ (HSL.out.below HB3.out)).mono ?_; rintro e w' ⟨rfl, rfl⟩
      go_wp2_with fail
      refine (RSum_any ao cap n f hm _ (HSL.out.below HB3.out)).mono ?_; rintro e w' ⟨rfl, rfl⟩
      go_wp2_with fail
      refine (known_any _).mono ?_
      rintro e w4 ⟨rfl, hb4⟩
      have HB4 := Lib.hid (below_then HB3.out hb4)
      clear hb4
      go_wp2_with fail
      go_ret
      exact ⟨rfl, HB4.out⟩

set_option maxHeartbeats 4000000 in
theorem ShareEvens_high (total : Int) (x : Int) (hx : 256 < x) (ao : Option Addr) (cap n : Nat) (f : Nat → Int) (w : World) (hm : n ≤ maxLen) (hS : Sl w ao n f) :
    Calls Try.prog 8 #[.int .i64 total, .int .i64 x, .slice ao n cap] w fun e w' => e = .returned (.bool true) ∧ Below w.heap.size w w' := by
  have hEN : evenN x = 256 := by unfold evenN; omega
  have HEV := Lib.hid (Even_any total x)
  rw [hEN] at HEV
  have hmk : ∀ w, (Instr.makeSlice 22 (.int .i64 256) (.int .i64 256)).run Try.prog w = .ok (.slice (some ⟨w.heap.size, 0, none⟩) 256 256) (w.alloc (.cells (madeCells #[.int .i64 0] 256) 3)) :=
    run_make_row' (P := Try.prog) 22 3 (.int .i64 0) 8 Try.underlying22 int_info rfl .i64 .i64 256 (by omega) (by omega)
  have HSL := Lib.hid hS
  have HRD := Lib.hid (fun w1 (o : Nat) (hr : w1.rowIs o 3 256 (fun _ => .int .i64 1)) => RDeal_any total (some ⟨o, 0, none⟩) 256 256 (fun _ => 1) (by omega) w1 (Sl.row hr))

  clear hS hEN
  go_enter Try.func8, Try.ntmps8
  go_wp2_with fail
  have HR0 := Lib.hid (World.rowIs_made w (.int .i64 0) 256 3)
  clear hmk
  go_loopw [9] (fun v9 wr => ∃ k : Nat, k ≤ 256 ∧ v9 = .int .i64 k ∧ wr.rowIs w.heap.size 3 256 (fun i => .int .i64 (if i < k then 1 else 0)) ∧ Below w.heap.size w wr) (fun v9 _ => 256 - (intOf v9).toNat)
  case atStart => exact ⟨0, Nat.zero_le _, rfl, HR0.out.congr (fun i hi => by simp), (Below.refl _ w).alloc (Nat.le_refl _) _⟩
  case round =>
    clear HR0
    obtain ⟨k, hkn, rfl, hr, hb⟩ := hrel
    by_cases hlt : k < 256
    · have fz := hr.frozen k
      have c6 := hr.cell hlt
      have HR := Lib.hid hr
      have HB := Lib.hid hb
      have kz : (k : Int) < 256 := by omega
      clear hr hb
      go_wp2_with fail
      all_goals
        go_roundw
        case rel =>
          refine ⟨k + 1, hlt, by go_num, (HR.out.set k _).congr (fun j hj => ?_), below_set HB.out (Nat.le_refl _) _⟩
          by_cases e : j = k
          · subst e; rw [if_pos rfl, if_pos (by omega)]
          · rw [if_neg e]
            by_cases e2 : j < k
            · rw [if_pos e2, if_pos (by omega)]
            · rw [if_neg e2, if_neg (by omega)]
        case measure => simp [intOf]; omega
    · have hkk : k = 256 := by omega
      have kz : ¬ (k : Int) < 256 := by omega
      have hr1 : wr.rowIs w.heap.size 3 256 (fun i => .int .i64 1) := hr.congr (fun i hi => by rw [if_pos (by omega)])
      have HR := Lib.hid hr1
      have HB := Lib.hid hb
      clear hr hb hr1 hkk
      go_wp2_with fail
      refine (HEV.out _).mono ?_
      rintro e w1 ⟨o1, rfl, ho1, hr1, hb1⟩
      have HR1 := Lib.hid hr1
      have HR' := Lib.hid (HR.out.of_block (hb1.block _ HR.out.lt))
      have HB1 := Lib.hid (below_then HB.out hb1)
      clear hr1 hb1 HEV HR HB
      go_wp2_with fail
      refine (HRD.out _ _ HR'.out).mono ?_
      rintro e w2 ⟨o2, rfl, ho2, hr2, hb2⟩
      have HI := Lib.hid (RInts_same (some ⟨o1, 0, none⟩) (some ⟨o2, 0, none⟩) 256 256 256 _ _ (fun i hi => rfl) (by omega) _ ((Sl.row HR1.out).below hb2) (Sl.row hr2))
      have HB2 := Lib.hid (below_then HB1.out hb2)
      clear hr2 hb2 HRD HR1 HR'
      go_wp2_with fail
      refine (HI.out).mono ?_
      rintro e w3 ⟨rfl, hb3⟩
      have HB3 := Lib.hid (below_then HB2.out hb3)
      clear hb3 HI
      go_wp2_with fail
      refine (Sum_any ao cap n f hm _ (HSL.out.below HB3.out)).mono ?_; rintro e w' ⟨rfl, rfl⟩
      go_wp2_with fail
      refine (RSum_any ao cap n f hm _ (HSL.out.below HB3.out)).mono ?_; rintro e w' ⟨rfl, rfl⟩
      go_wp2_with fail
      refine (known_any _).mono ?_
      rintro e w4 ⟨rfl, hb4⟩
      have HB4 := Lib.hid (below_then HB3.out hb4)
      clear hb4
      go_wp2_with fail
      go_ret
      exact ⟨rfl, HB4.out⟩

set_option maxHeartbeats 4000000 in
theorem ShareEvens_mid (total : Int) (x : Int) (K : Nat) (hK : K ≤ 256) (ao : Option Addr) (cap n : Nat) (f : Nat → Int) (w : World) (hm : n ≤ maxLen) (hS : Sl w ao n f) :
    Calls Try.prog 8 #[.int .i64 total, .int .i64 (K : Int), .slice ao n cap] w fun e w' => e = .returned (.bool true) ∧ Below w.heap.size w w' := by
  have hEN : evenN (K : Int) = K := by unfold evenN; omega
  have HEV := Lib.hid (Even_any total (K : Int))
  rw [hEN] at HEV
  have hmk : ∀ w, (Instr.makeSlice 22 (.int .i64 (K : Int)) (.int .i64 (K : Int))).run Try.prog w = .ok (.slice (some ⟨w.heap.size, 0, none⟩) K K) (w.alloc (.cells (madeCells #[.int .i64 0] K) 3)) :=
    run_make_row' (P := Try.prog) 22 3 (.int .i64 0) 8 Try.underlying22 int_info rfl .i64 .i64 K (by omega) (by omega)
  have HSL := Lib.hid hS
  have HRD := Lib.hid (fun w1 (o : Nat) (hr : w1.rowIs o 3 K (fun _ => .int .i64 1)) => RDeal_any total (some ⟨o, 0, none⟩) K K (fun _ => 1) (by omega) w1 (Sl.row hr))

  clear hS hEN
  go_enter Try.func8, Try.ntmps8
  go_wp2_with fail
  have HR0 := Lib.hid (World.rowIs_made w (.int .i64 0) K 3)
  clear hmk
  go_loopw [9] (fun v9 wr => ∃ k : Nat, k ≤ K ∧ v9 = .int .i64 k ∧ wr.rowIs w.heap.size 3 K (fun i => .int .i64 (if i < k then 1 else 0)) ∧ Below w.heap.size w wr) (fun v9 _ => K - (intOf v9).toNat)
  case atStart => exact ⟨0, Nat.zero_le _, rfl, HR0.out.congr (fun i hi => by simp), (Below.refl _ w).alloc (Nat.le_refl _) _⟩
  case round =>
    clear HR0
    obtain ⟨k, hkn, rfl, hr, hb⟩ := hrel
    by_cases hlt : k < K
    · have fz := hr.frozen k
      have c6 := hr.cell hlt
      have HR := Lib.hid hr
      have HB := Lib.hid hb
      have kz : (k : Int) < (K : Int) := by omega
      clear hr hb
      go_wp2_with fail
      all_goals
        go_roundw
        case rel =>
          refine ⟨k + 1, hlt, by go_num, (HR.out.set k _).congr (fun j hj => ?_), below_set HB.out (Nat.le_refl _) _⟩
          by_cases e : j = k
          · subst e; rw [if_pos rfl, if_pos (by omega)]
          · rw [if_neg e]
            by_cases e2 : j < k
            · rw [if_pos e2, if_pos (by omega)]
            · rw [if_neg e2, if_neg (by omega)]
        case measure => simp [intOf]; omega
    · have hkk : k = K := by omega
      have kz : ¬ (k : Int) < (K : Int) := by omega
      have hr1 : wr.rowIs w.heap.size 3 K (fun i => .int .i64 1) := hr.congr (fun i hi => by rw [if_pos (by omega)])
      have HR := Lib.hid hr1
      have HB := Lib.hid hb
      clear hr hb hr1 hkk
      go_wp2_with fail
      refine (HEV.out _).mono ?_
      rintro e w1 ⟨o1, rfl, ho1, hr1, hb1⟩
      have HR1 := Lib.hid hr1
      have HR' := Lib.hid (HR.out.of_block (hb1.block _ HR.out.lt))
      have HB1 := Lib.hid (below_then HB.out hb1)
      clear hr1 hb1 HEV HR HB
      go_wp2_with fail
      refine (HRD.out _ _ HR'.out).mono ?_
      rintro e w2 ⟨o2, rfl, ho2, hr2, hb2⟩
      have HI := Lib.hid (RInts_same (some ⟨o1, 0, none⟩) (some ⟨o2, 0, none⟩) K K K _ _ (fun i hi => rfl) (by omega) _ ((Sl.row HR1.out).below hb2) (Sl.row hr2))
      have HB2 := Lib.hid (below_then HB1.out hb2)
      clear hr2 hb2 HRD HR1 HR'
      go_wp2_with fail
      refine (HI.out).mono ?_
      rintro e w3 ⟨rfl, hb3⟩
      have HB3 := Lib.hid (below_then HB2.out hb3)
      clear hb3 HI
      go_wp2_with fail
      refine (Sum_any ao cap n f hm _ (HSL.out.below HB3.out)).mono ?_; rintro e w' ⟨rfl, rfl⟩
      go_wp2_with fail
      refine (RSum_any ao cap n f hm _ (HSL.out.below HB3.out)).mono ?_; rintro e w' ⟨rfl, rfl⟩
      go_wp2_with fail
      refine (known_any _).mono ?_
      rintro e w4 ⟨rfl, hb4⟩
      have HB4 := Lib.hid (below_then HB3.out hb4)
      clear hb4
      go_wp2_with fail
      go_ret
      exact ⟨rfl, HB4.out⟩

theorem ShareEvens_walk (total : Int) (x : Int) (ao : Option Addr) (cap n : Nat) (f : Nat → Int) (w : World) (hm : n ≤ maxLen) (hS : Sl w ao n f) :
    Calls Try.prog 8 #[.int .i64 total, .int .i64 x, .slice ao n cap] w fun e w' => e = .returned (.bool true) ∧ Below w.heap.size w w' := by
  by_cases h1 : x < 0
  · exact ShareEvens_low total x h1 ao cap n f w hm hS
  · by_cases h2 : 256 < x
    · exact ShareEvens_high total x h2 ao cap n f w hm hS
    · obtain ⟨K, rfl⟩ : ∃ K : Nat, x = K := ⟨x.toNat, by omega⟩
      exact ShareEvens_mid total 0 K (by omega) ao cap n f w hm hS

end Go.Proofs.Ytjgpakpofiblcaa
