/- The statements on shares: walks. -/
import Derived.Test.YtjgpakpofiblcaaShareKnown
import Derived.Test.YtjgpakpofiblcaaExt
namespace Go.Proofs.Ytjgpakpofiblcaa
open Go.Shelf Go.RowKit Go.Lib Go.Sort
set_option linter.unusedSimpArgs false
set_option linter.unusedVariables false
attribute [local go_sem] cell?_ext frozen?_ext lt_size_ext

theorem few_yes (ao : Option Addr) (cap n : Nat) (h : n ≤ 300) (w : World) : Calls Try.prog 9 #[.slice ao n cap] w fun e w' => e = .returned (.bool true) ∧ w = w' := by
  have := few_any ao cap n w
  rwa [decide_eq_true h] at this
theorem few_no (ao : Option Addr) (cap n : Nat) (h : ¬ n ≤ 300) (w : World) : Calls Try.prog 9 #[.slice ao n cap] w fun e w' => e = .returned (.bool false) ∧ w = w' := by
  have := few_any ao cap n w
  rwa [decide_eq_false h] at this

set_option maxHeartbeats 1000000 in
theorem ShareDeals_walk (total : Int) (ao : Option Addr) (cap n : Nat) (f : Nat → Int) (w : World) (hS : Sl w ao n f) :
    Calls Try.prog 3 #[.int .i64 total, .slice ao n cap] w fun e w' => e = .returned (.bool true) ∧ Below w.heap.size w w' := by
  by_cases hn : n ≤ 300
  · have HC1 := Lib.hid (Deal_any total ao cap n f (by omega) w hS)
    have HSL := Lib.hid hS
    clear hS
    go_enter Try.func3, Try.ntmps3
    go_wp2_with fail
    refine (few_yes _ _ _ hn _).mono ?_; rintro e w' ⟨rfl, rfl⟩
    go_wp2_with fail
    refine (HC1.out).mono ?_
    rintro e w1 ⟨o, rfl, ho, hr, hb1⟩
    have HC2 := Lib.hid (RDeal_any total ao cap n f (by omega) w1 (HSL.out.below hb1))
    have HR := Lib.hid hr
    have HB1 := Lib.hid hb1
    clear hr hb1 HC1
    go_wp2_with fail
    refine (HC2.out).mono ?_
    rintro e w2 ⟨o2, rfl, ho2, hr2, hb2⟩
    have HI := Lib.hid (RInts_same (some ⟨o, 0, none⟩) (some ⟨o2, 0, none⟩) n n n _ _ (fun i hi => rfl) (by omega) _ ((Sl.row HR.out).below hb2) (Sl.row hr2))
    have HB2 := Lib.hid (below_then HB1.out hb2)
    clear hr2 hb2 HC2
    go_wp2_with fail
    refine (HI.out).mono ?_
    rintro e w3 ⟨rfl, hb3⟩
    have HB3 := Lib.hid (below_then HB2.out hb3)
    clear hb3 HI
    go_wp2_with fail
    refine (known_any _).mono ?_
    rintro e w4 ⟨rfl, hb4⟩
    have HB4 := Lib.hid (below_then HB3.out hb4)
    clear hb4
    go_wp2_with fail
    go_ret
    exact ⟨rfl, HB4.out⟩
  · go_enter Try.func3, Try.ntmps3
    go_wp2_with fail
    refine (few_no _ _ _ hn _).mono ?_; rintro e w' ⟨rfl, rfl⟩
    go_wp2_with fail
    refine (known_any _).mono ?_
    rintro e w4 ⟨rfl, hb4⟩
    have HB4 := Lib.hid hb4
    clear hb4
    go_wp2_with fail
    go_ret
    exact ⟨rfl, HB4.out⟩

theorem deal_sum (total : Int) (n : Nat) (f : Nat → Int) (hn : n ≤ 1048576) : Sh.sm (deal total n f) n = if Sh.sm (fun i => wt (f i)) n = 0 then 0 else hold total := by
  have hb := hold_bd total
  by_cases hs : Sh.sm (fun i => wt (f i)) n = 0
  · rw [if_pos hs, ← Sh.sm_zero n]
    exact Sh.sm_congr fun i _ => by unfold deal; rw [if_pos hs]
  · rw [if_neg hs]
    by_cases ht : 0 ≤ hold total
    · have e : Sh.sm (deal total n f) n = Sh.sm (Sh.dealt (hold total) (Sh.sm (fun i => wt (f i)) n) n (fun i => wt (f i))) n := Sh.sm_congr fun i _ => by unfold deal; rw [if_neg hs, if_pos ht]
      rw [e]
      have D := deals_of (hold total) n f ht hb.2 hn hs
      exact Sh.dealt_sum D.sum D.S0
    · have e : Sh.sm (deal total n f) n = Sh.sm (fun i => -Sh.dealt (-hold total) (Sh.sm (fun i => wt (f i)) n) n (fun i => wt (f i)) i) n := Sh.sm_congr fun i _ => by unfold deal; rw [if_neg hs, if_neg ht]
      rw [e, Sh.sm_neg]
      have D := deals_of (-hold total) n f (by omega) (by omega) hn hs
      rw [Sh.dealt_sum D.sum D.S0]; omega
theorem deal_bd (total : Int) (n : Nat) (f : Nat → Int) (hn : n ≤ 1048576) {i : Nat} (hi : i < n) : -1073741825 ≤ deal total n f i ∧ deal total n f i ≤ 1073741825 := by
  have hb := hold_bd total
  unfold deal
  split
  · omega
  · rename_i hs
    split
    · have := dealt_bd (deals_of (hold total) n f (by omega) hb.2 hn hs) hi; omega
    · have := dealt_bd (deals_of (-hold total) n f (by omega) (by omega) hn hs) hi; omega
theorem sm_bd (g : Nat → Int) (c : Int) : ∀ (k : Nat), (∀ i, i < k → -c ≤ g i ∧ g i ≤ c) → -c * k ≤ Sh.sm g k ∧ Sh.sm g k ≤ c * k
  | 0, _ => by simp [Sh.sm]
  | k + 1, h => by
    have h1 := sm_bd g c k (fun i hi => h i (by omega))
    have h2 := h k (by omega)
    have e1 : c * ((k + 1 : Nat) : Int) = c * k + c := by rw [Int.natCast_succ, Int.mul_add, Int.mul_one]
    have e2 : -c * ((k + 1 : Nat) : Int) = -c * k - c := by rw [Int.natCast_succ, Int.mul_add, Int.mul_one]; omega
    simp only [Sh.sm]; omega

set_option maxHeartbeats 2000000 in
theorem ShareWhole_walk (total : Int) (ao : Option Addr) (cap n : Nat) (f : Nat → Int) (w : World) (hS : Sl w ao n f) :
    Calls Try.prog 4 #[.int .i64 total, .slice ao n cap] w fun e w' => e = .returned (.bool true) ∧ Below w.heap.size w w' := by
  by_cases hn : n ≤ 300
  · have HC1 := Lib.hid (Deal_any total ao cap n f (by omega) w hS)
    have HSL := Lib.hid hS
    have HSUM := Lib.hid (deal_sum total n f (by omega))
    clear hS
    go_enter Try.func4, Try.ntmps4
    go_wp2_with fail
    refine (few_yes _ _ _ hn _).mono ?_; rintro e w' ⟨rfl, rfl⟩
    go_wp2_with fail
    refine (HC1.out).mono ?_
    rintro e w1 ⟨o, rfl, ho, hr, hb1⟩
    have HR := Lib.hid hr
    have HB1 := Lib.hid hb1
    clear hr hb1 HC1
    go_wp2_with fail
    go_loop [6, 7] (fun v6 v7 => ∃ k : Nat, k ≤ n ∧ v7 = .int .i64 k ∧ v6 = .int .i64 (Sh.sm (deal total n f) k)) (fun _ v7 => n - (intOf v7).toNat)
    case atStart => exact ⟨0, Nat.zero_le _, rfl, rfl⟩
    case round =>
      obtain ⟨k, hk, rfl, rfl⟩ := hrel
      by_cases hlt : k < n
      · have c1 := HR.out.cell hlt
        have d1 := deal_bd total n f (by omega) hlt
        have d2 := sm_bd (deal total n f) 1073741825 k (fun i hi => deal_bd total n f (by omega) (by omega))
        have HE : Hid (Sh.sm (deal total n f) (k + 1) = Sh.sm (deal total n f) k + deal total n f k) := Lib.hid rfl
        generalize Sh.sm (deal total n f) k = a at *
        generalize deal total n f k = x at *
        go_wp2_with fail
        go_round
        case rel => exact ⟨k + 1, hlt, by go_num, by rw [HE.out]⟩
        case measure => simp [intOf]; omega
      · obtain rfl : k = n := by omega
        go_wp2_with fail
        refine (RHold_any _ _).mono ?_; rintro e w' ⟨rfl, rfl⟩
        go_wp2_with fail
        refine (RWeights_any ao cap k f (by omega) _ (HSL.out.below HB1.out)).mono ?_; rintro e w' ⟨rfl, rfl⟩
        by_cases hs : Sh.sm (fun i => wt (f i)) k = 0
        · have hs0 : (Sh.sm (fun i => wt (f i)) k == 0) = true := by simp [hs]
          have hsum : Sh.sm (deal total k f) k = 0 := by rw [HSUM.out, if_pos hs]
          have hsum' : (Sh.sm (deal total k f) k == 0) = true := by simp [hsum]
          clear hs hsum
          go_wp2_with fail
          refine (known_any _).mono ?_
          rintro e w4 ⟨rfl, hb4⟩
          have HB4 := Lib.hid (below_then HB1.out hb4)
          clear hb4
          go_wp2_with fail
          go_ret
          exact ⟨rfl, HB4.out⟩
        · have hs0 : (Sh.sm (fun i => wt (f i)) k == 0) = false := by simp [hs]
          have hsum : Sh.sm (deal total k f) k = hold total := by rw [HSUM.out, if_neg hs]
          have hsum' : (Sh.sm (deal total k f) k == hold total) = true := by simp [hsum]
          clear hs hsum
          go_wp2_with fail
          refine (known_any _).mono ?_
          rintro e w4 ⟨rfl, hb4⟩
          have HB4 := Lib.hid (below_then HB1.out hb4)
          clear hb4
          go_wp2_with fail
          go_ret
          exact ⟨rfl, HB4.out⟩
  · go_enter Try.func4, Try.ntmps4
    go_wp2_with fail
    refine (few_no _ _ _ hn _).mono ?_; rintro e w' ⟨rfl, rfl⟩
    go_wp2_with fail
    refine (known_any _).mono ?_
    rintro e w4 ⟨rfl, hb4⟩
    have HB4 := Lib.hid hb4
    clear hb4
    go_wp2_with fail
    go_ret
    exact ⟨rfl, HB4.out⟩

theorem deal_near {total : Int} {n : Nat} {f : Nat → Int} (ht : 0 ≤ hold total) (hs : ¬ Sh.sm (fun i => wt (f i)) n = 0) (i : Nat) :
    deal total n f i = hold total * wt (f i) / Sh.sm (fun i => wt (f i)) n ∨ deal total n f i = hold total * wt (f i) / Sh.sm (fun i => wt (f i)) n + 1 := by
  unfold deal
  rw [if_neg hs, if_pos ht]
  exact Sh.dealt_near i

/-- Some number. -/
def SomeInt (w : World) (e : Ending) (w' : World) : Prop := ∃ x, e = .returned (.int .i64 x) ∧ w = w'

set_option maxHeartbeats 1000000 in
theorem RWeights_some (ao : Option Addr) (cap n : Nat) (f : Nat → Int) (hm : n ≤ maxLen) (w : World) (hS : Sl w ao n f) :
    Calls Try.prog 15 #[.slice ao n cap] w (SomeInt w) := by
  have HS := Lib.hid hS
  have hn := hm
  unfold maxLen at hn
  clear hS hm
  go_enter Try.func15, Try.ntmps15
  go_wp2_with fail
  go_loop [3, 4] (fun v3 v4 => ∃ (k : Nat) (x : Int), k ≤ n ∧ v4 = .int .i64 k ∧ v3 = .int .i64 x) (fun _ v4 => n - (intOf v4).toNat)
  case atStart => exact ⟨0, 0, Nat.zero_le _, rfl, rfl⟩
  case round =>
    obtain ⟨k, x, hk, rfl, rfl⟩ := hrel
    by_cases hlt : k < n
    · obtain ⟨b, o, rfl, hN⟩ := HS.out.at hlt
      have c1 := hN.2 k hlt
      clear hN
      go_wp2_with fail
      refine (RWeight_any _ _).mono ?_; rintro e w' ⟨rfl, rfl⟩
      go_wp2_with fail
      go_round
      case rel => exact ⟨k + 1, _, hlt, by go_num, rfl⟩
      case measure => simp [intOf]; omega
    · obtain rfl : k = n := by omega
      go_wp2_with fail
      go_ret
      exact ⟨x, rfl, rfl⟩

set_option maxHeartbeats 4000000 in
theorem ShareNear_walk (total : Int) (ao : Option Addr) (cap n : Nat) (f : Nat → Int) (w : World) (hm : n ≤ maxLen) (hS : Sl w ao n f) :
    Calls Try.prog 5 #[.int .i64 total, .slice ao n cap] w fun e w' => e = .returned (.bool true) ∧ Below w.heap.size w w' := by
  by_cases hn : n ≤ 300
  · have HC1 := Lib.hid (Deal_any total ao cap n f (by omega) w hS)
    have HSL := Lib.hid hS
    have HW := Lib.hid (RWeights_any ao cap n f (by omega) w hS)
    have hb := hold_bd total
    have HD : Hid (0 ≤ hold total → ¬ Sh.sm (fun i => wt (f i)) n = 0 → Deals (hold total) (Sh.sm (fun i => wt (f i)) n) n (fun i => wt (f i))) := Lib.hid (fun h0 hs => deals_of (hold total) n f h0 hb.2 (by omega) hs)
    have HNR : Hid (0 ≤ hold total → ¬ Sh.sm (fun i => wt (f i)) n = 0 → ∀ i, deal total n f i = hold total * wt (f i) / Sh.sm (fun i => wt (f i)) n ∨ deal total n f i = hold total * wt (f i) / Sh.sm (fun i => wt (f i)) n + 1) := Lib.hid (fun h0 hs i => deal_near h0 hs i)
    clear hS hm
    go_enter Try.func5, Try.ntmps5
    go_wp2_with fail
    refine (RHold_any _ _).mono ?_; rintro e w' ⟨rfl, rfl⟩
    go_wp2_with fail
    refine (HW.out).mono ?_; rintro e w' ⟨rfl, rfl⟩
    generalize Sh.sm (fun i => wt (f i)) n = S at *
    generalize hold total = t at *
    go_wp2_with fail
    refine (few_yes _ _ _ hn _).mono ?_; rintro e w' ⟨rfl, rfl⟩
    by_cases ht : t < 0
    · go_wp2_with fail
      refine (known_any _).mono ?_
      rintro e w4 ⟨rfl, hb4⟩
      have HB4 := Lib.hid (hb4)
      clear hb4
      go_wp2_with fail
      go_ret
      exact ⟨rfl, HB4.out⟩
    · by_cases hs : S = 0
      · have hs0 : (S == 0) = true := by simp [hs]
        clear hs
        go_wp2_with fail
        refine (known_any _).mono ?_
        rintro e w4 ⟨rfl, hb4⟩
        have HB4 := Lib.hid (hb4)
        clear hb4
        go_wp2_with fail
        go_ret
        exact ⟨rfl, HB4.out⟩
      · have hs0 : (S == 0) = false := by simp [hs]
        have D := HD.out (by omega) hs
        have hS0 := D.S0
        have hS1 := D.S1
        have HDD := Lib.hid D
        have HN2 := Lib.hid (HNR.out (by omega) hs)
        have hsn : S ≠ 0 := hs
        clear hs D HD HNR
        go_wp2_with fail
        refine (HC1.out).mono ?_
        rintro e w1 ⟨o, rfl, ho, hr, hb1⟩
        have HR := Lib.hid hr
        have HB1 := Lib.hid hb1
        have hne : ((n : Int) != (n : Int)) = false := by simp
        clear hr hb1 HC1
        go_wp2_with fail
        go_loop [8] (fun v8 => ∃ k : Nat, k ≤ n ∧ v8 = .int .i64 k) (fun v8 => n - (intOf v8).toNat)
        case atStart => exact ⟨0, Nat.zero_le _, rfl⟩
        case round =>
          obtain ⟨k, hk, rfl⟩ := hrel
          by_cases hlt : k < n
          · obtain ⟨bw, ow, rfl, hN⟩ := (HSL.out.below HB1.out).at hlt
            have c0 := hN.2 k hlt
            have c1 := HR.out.cell hlt
            have hmul := HDD.out.mul hlt
            have hq0 := HDD.out.q0 hlt
            have hq1 := HDD.out.q1 hlt
            have eq1 : Sh.q t S (fun i => wt (f i)) k = t * wt (f k) / S := rfl
            rw [eq1] at hq0 hq1
            have hnr := HN2.out k
            clear hN eq1
            rcases hnr with hnr | hnr
            · have hq : (deal total n f k != t * wt (f k) / S) = false := by simp [hnr]
              clear hnr
              go_wp2_with fail
              refine (RWeight_any _ _).mono ?_; rintro e w' ⟨rfl, rfl⟩
              go_wp2_with fail
              go_round
              case rel => exact ⟨k + 1, hlt, by go_num⟩
              case measure => simp [intOf]; omega
            · have hq : (deal total n f k != t * wt (f k) / S) = true := by simp; omega
              have hq2 : (deal total n f k != t * wt (f k) / S + 1) = false := by simp [hnr]
              clear hnr
              go_wp2_with fail
              refine (RWeight_any _ _).mono ?_; rintro e w' ⟨rfl, rfl⟩
              go_wp2_with fail
              go_round
              case rel => exact ⟨k + 1, hlt, by go_num⟩
              case measure => simp [intOf]; omega
          · obtain rfl : k = n := by omega
            go_wp2_with fail
            refine (known_any _).mono ?_
            rintro e w4 ⟨rfl, hb4⟩
            have HB4 := Lib.hid (below_then HB1.out hb4)
            clear hb4
            go_wp2_with fail
            go_ret
            exact ⟨rfl, HB4.out⟩
  · have HW := Lib.hid (RWeights_some ao cap n f hm w hS)
    clear hS hm
    go_enter Try.func5, Try.ntmps5
    go_wp2_with fail
    refine (RHold_any _ _).mono ?_; rintro e w' ⟨rfl, rfl⟩
    go_wp2_with fail
    refine (HW.out).mono ?_; rintro e w' ⟨x, rfl, rfl⟩
    go_wp2_with fail
    refine (few_no _ _ _ hn _).mono ?_; rintro e w' ⟨rfl, rfl⟩
    go_wp2_with fail
    refine (known_any _).mono ?_
    rintro e w4 ⟨rfl, hb4⟩
    have HB4 := Lib.hid (hb4)
    clear hb4
    go_wp2_with fail
    go_ret
    exact ⟨rfl, HB4.out⟩

theorem deal_order {total : Int} {n : Nat} {f : Nat → Int} (hn : n ≤ 1048576) (ht : 0 ≤ total) {i j : Nat} (hi : i < n) (h : wt (f j) < wt (f i) ∨ (wt (f i) = wt (f j) ∧ i < j)) : deal total n f j ≤ deal total n f i := by
  have hb := hold_bd total
  have h0 : 0 ≤ hold total := by unfold hold; split <;> (try split) <;> omega
  unfold deal
  by_cases hs : Sh.sm (fun i => wt (f i)) n = 0
  · rw [if_pos hs, if_pos hs]; exact Int.le_refl _
  · rw [if_neg hs, if_neg hs, if_pos h0, if_pos h0]
    have D := deals_of (hold total) n f h0 hb.2 hn hs
    exact Sh.dealt_order h0 D.S0 hi h
theorem deal_turn (total : Int) (n : Nat) (f : Nat → Int) (i : Nat) : deal (hold total) n f i = -deal (-hold total) n f i := by
  have hb := hold_bd total
  unfold deal
  by_cases hs : Sh.sm (fun i => wt (f i)) n = 0
  · rw [if_pos hs, if_pos hs]; rfl
  · rw [if_neg hs, if_neg hs, hold_hold, hold_neg2]
    by_cases h0 : hold total = 0
    · rw [h0, if_pos (by decide), if_pos (by decide)]
      show Sh.dealt 0 _ n _ i = -Sh.dealt 0 _ n _ i
      rw [Sh.dealt_zero]; rfl
    · by_cases h1 : 0 ≤ hold total
      · rw [if_pos h1, if_neg (c := 0 ≤ -hold total) (by omega), Int.neg_neg, Int.neg_neg]
      · rw [if_neg h1, if_pos (c := 0 ≤ -hold total) (by omega)]

set_option maxHeartbeats 4000000 in
theorem ShareOrder_walk (total : Int) (ao : Option Addr) (cap n : Nat) (f : Nat → Int) (x y : Int) (w : World) (hS : Sl w ao n f) :
    Calls Try.prog 6 #[.int .i64 total, .slice ao n cap, .int .i64 x, .int .i64 y] w fun e w' => e = .returned (.bool true) ∧ Below w.heap.size w w' := by
  by_cases hn : n ≤ 300
  · by_cases h1 : total < 0
    · go_enter Try.func6, Try.ntmps6
      go_wp2_with fail
      refine (few_yes _ _ _ hn _).mono ?_; rintro e w' ⟨rfl, rfl⟩
      go_wp2_with fail
      refine (known_any _).mono ?_
      rintro e w4 ⟨rfl, hb4⟩
      have HB4 := Lib.hid (hb4)
      clear hb4
      go_wp2_with fail
      go_ret
      exact ⟨rfl, HB4.out⟩
    by_cases h2 : x < 0
    · go_enter Try.func6, Try.ntmps6
      go_wp2_with fail
      refine (few_yes _ _ _ hn _).mono ?_; rintro e w' ⟨rfl, rfl⟩
      go_wp2_with fail
      refine (known_any _).mono ?_
      rintro e w4 ⟨rfl, hb4⟩
      have HB4 := Lib.hid (hb4)
      clear hb4
      go_wp2_with fail
      go_ret
      exact ⟨rfl, HB4.out⟩
    by_cases h3 : (n : Int) ≤ x
    · go_enter Try.func6, Try.ntmps6
      go_wp2_with fail
      refine (few_yes _ _ _ hn _).mono ?_; rintro e w' ⟨rfl, rfl⟩
      go_wp2_with fail
      refine (known_any _).mono ?_
      rintro e w4 ⟨rfl, hb4⟩
      have HB4 := Lib.hid (hb4)
      clear hb4
      go_wp2_with fail
      go_ret
      exact ⟨rfl, HB4.out⟩
    by_cases h4 : y < 0
    · go_enter Try.func6, Try.ntmps6
      go_wp2_with fail
      refine (few_yes _ _ _ hn _).mono ?_; rintro e w' ⟨rfl, rfl⟩
      go_wp2_with fail
      refine (known_any _).mono ?_
      rintro e w4 ⟨rfl, hb4⟩
      have HB4 := Lib.hid (hb4)
      clear hb4
      go_wp2_with fail
      go_ret
      exact ⟨rfl, HB4.out⟩
    by_cases h5 : (n : Int) ≤ y
    · go_enter Try.func6, Try.ntmps6
      go_wp2_with fail
      refine (few_yes _ _ _ hn _).mono ?_; rintro e w' ⟨rfl, rfl⟩
      go_wp2_with fail
      refine (known_any _).mono ?_
      rintro e w4 ⟨rfl, hb4⟩
      have HB4 := Lib.hid (hb4)
      clear hb4
      go_wp2_with fail
      go_ret
      exact ⟨rfl, HB4.out⟩
    obtain ⟨i, rfl⟩ : ∃ i : Nat, x = i := ⟨x.toNat, by omega⟩
    obtain ⟨j, rfl⟩ : ∃ j : Nat, y = j := ⟨y.toNat, by omega⟩
    have hi : i < n := by omega
    have hj : j < n := by omega
    obtain ⟨bw, ow, rfl, hN⟩ := hS.at hi
    have HC1 := Lib.hid (Deal_any total (some ⟨bw, ow, none⟩) cap n f (by omega) w (.inr ⟨bw, ow, rfl, hN⟩))
    have HN := Lib.hid hN
    have HO : Hid ((wt (f j) < wt (f i) ∨ (wt (f i) = wt (f j) ∧ i < j)) → deal total n f j ≤ deal total n f i) := Lib.hid (fun h => deal_order (by omega) (by omega) hi h)
    have hne : ((n : Int) != (n : Int)) = false := by simp
    clear hS hN
    go_enter Try.func6, Try.ntmps6
    go_wp2_with fail
    refine (few_yes _ _ _ hn _).mono ?_; rintro e w' ⟨rfl, rfl⟩
    go_wp2_with fail
    refine (HC1.out).mono ?_
    rintro e w1 ⟨o, rfl, ho, hr, hb1⟩
    have hN1 := HN.out.below hb1
    have c1 := hN1.2 i hi
    have c2 := hN1.2 j hj
    have d1 := hr.cell hi
    have d2 := hr.cell hj
    have hol := hr.lt
    have HB1 := Lib.hid hb1
    clear hr hb1 HC1 hN1
    go_wp2_with fail
    go_quiet ((go_at_call 16; exact quiet_left (RWeight_any _ _)))
    have HB2 : Hid (Below w.heap.size w (w1.drewN nq)) := Lib.hid (below_drawn HB1.out _)
    have d3 : (w1.drewN nq).cell? ⟨o, i, none⟩ = some (.int .i64 (deal total n f i)) := d1
    have d4 : (w1.drewN nq).cell? ⟨o, j, none⟩ = some (.int .i64 (deal total n f j)) := d2
    have hol2 : o < (w1.drewN nq).heap.size := hol
    clear d1 d2 hol HB1
    generalize w1.drewN nq = w2 at *
    generalize hwi : wt (f i) = a at *
    generalize hwj : wt (f j) = b at *
    clear c1 c2 hwi hwj
    generalize hdi : deal total n f i = u at *
    generalize hdj : deal total n f j = v at *
    clear hdi hdj
    by_cases hab : b < a
    · have huv := HO.out (.inl hab)
      have huv' : v ≤ u := huv
      have hvd : decide (v ≤ u) = true := decide_eq_true huv'
      clear huv HO
      go_wp2_with fail
      refine wp_region_ext (by kernel_rfl) (by kernel_rfl) ?_
      repeat (go_big_quiet_step ((go_at_call 10; exact quiet_ext (known_any _))))
      refine wpQuiet_nil ?_
      rintro _ ⟨z, rfl⟩
      go_wp2_with fail
      go_ret
      exact ⟨rfl, below_then HB2.out (below_ext _ _)⟩
    · by_cases heq : a = b
      · have heq' : (a == b) = true := by simp [heq]
        by_cases hij : i < j
        · have huv' : v ≤ u := HO.out (.inr ⟨heq, hij⟩)
          have hvd : decide (v ≤ u) = true := decide_eq_true huv'
          have hijz : (i : Int) < (j : Int) := by omega
          clear HO heq
          go_wp2_with fail
          refine wp_region_ext (by kernel_rfl) (by kernel_rfl) ?_
          repeat (go_big_quiet_step ((go_at_call 10; exact quiet_ext (known_any _))))
          refine wpQuiet_nil ?_
          rintro _ ⟨z, rfl⟩
          go_wp2_with fail
          go_ret
          exact ⟨rfl, below_then HB2.out (below_ext _ _)⟩
        · have hijz : ¬ (i : Int) < (j : Int) := by omega
          clear HO heq
          go_wp2_with fail
          refine (known_any _).mono ?_
          rintro e w4 ⟨rfl, hb4⟩
          have HB4 := Lib.hid (below_then HB2.out hb4)
          clear hb4
          go_wp2_with fail
          go_ret
          exact ⟨rfl, HB4.out⟩
      · have heq' : (a == b) = false := by simp [heq]
        clear HO heq
        go_wp2_with fail
        refine (known_any _).mono ?_
        rintro e w4 ⟨rfl, hb4⟩
        have HB4 := Lib.hid (below_then HB2.out hb4)
        clear hb4
        go_wp2_with fail
        go_ret
        exact ⟨rfl, HB4.out⟩
  · clear hS
    go_enter Try.func6, Try.ntmps6
    go_wp2_with fail
    refine (few_no _ _ _ hn _).mono ?_; rintro e w' ⟨rfl, rfl⟩
    go_wp2_with fail
    refine (known_any _).mono ?_
    rintro e w4 ⟨rfl, hb4⟩
    have HB4 := Lib.hid (hb4)
    clear hb4
    go_wp2_with fail
    go_ret
    exact ⟨rfl, HB4.out⟩

end Go.Proofs.Ytjgpakpofiblcaa
