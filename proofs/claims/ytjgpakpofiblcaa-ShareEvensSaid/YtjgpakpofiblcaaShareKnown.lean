/- Shares: lists held against each other, equal shares, sums; the fixed calls of the statements. -/
import Derived.Test.YtjgpakpofiblcaaRDeal
namespace Go.Proofs.Ytjgpakpofiblcaa
open Go.Shelf Go.RowKit Go.Lib Go.Sort
set_option linter.unusedSimpArgs false
set_option linter.unusedVariables false

set_option maxHeartbeats 2000000 in
theorem RInts_same (a1 a2 : Option Addr) (cap1 cap2 n : Nat) (f g : Nat → Int) (hfg : ∀ i, i < n → f i = g i) (hn : n ≤ 1048576) (w : World) (h1 : Sl w a1 n f) (h2 : Sl w a2 n g) :
    Calls Try.prog 11 #[.slice a1 n cap1, .slice a2 n cap2] w fun e w' => e = .returned (.bool true) ∧ Below w.heap.size w w' := by
  have H1 := Lib.hid h1
  have H2 := Lib.hid h2
  have HFG := Lib.hid hfg
  clear h1 h2 hfg
  go_enter Try.func11, Try.ntmps11
  go_wp2_with fail
  go_loopw [5] (fun v5 wr => ∃ k : Nat, k ≤ n ∧ v5 = .int .i64 k ∧ Below w.heap.size w wr) (fun v5 _ => n - (intOf v5).toNat)
  case atStart => exact ⟨0, Nat.zero_le _, rfl, Below.refl _ _⟩
  case round =>
    obtain ⟨k, hk, rfl, hb⟩ := hrel
    by_cases hlt : k < n
    · obtain ⟨b1, o1, rfl, hN1⟩ := (H1.out.below hb).at hlt
      obtain ⟨b2, o2, rfl, hN2⟩ := (H2.out.below hb).at hlt
      have c1 := hN1.2 k hlt
      have c2 := hN2.2 k hlt
      rw [← HFG.out k hlt] at c2
      have kz : (k : Int) < (n : Int) := by omega
      have HB := Lib.hid hb
      clear hb hN1 hN2
      generalize f k = x at c1 c2
      go_wp2_with fail
      go_quiet (fail)
      go_wp2_with fail
      go_roundw
      case rel => exact ⟨k + 1, hlt, by go_num, below_drawn HB.out _⟩
      case measure => simp [intOf]; omega
    · obtain rfl : k = n := by omega
      have HB := Lib.hid hb
      clear hb
      go_wp2_with fail
      go_ret
      exact ⟨rfl, HB.out⟩

/-- A list's sum: one by one, held. -/
def hsum (f : Nat → Int) : Nat → Int
  | 0 => 0
  | n + 1 => hold (hsum f n + hold (f n))
theorem hsum_bd (f : Nat → Int) : ∀ n, -1073741824 ≤ hsum f n ∧ hsum f n ≤ 1073741824
  | 0 => by simp [hsum]
  | n + 1 => hold_bd _
theorem hsum_add (f : Nat → Int) (n : Nat) : addH (hsum f n) (f n) = hsum f (n + 1) := by
  unfold addH
  rw [hold_id (x := hsum f n) (hsum_bd f n).1 (hsum_bd f n).2]; rfl

set_option maxHeartbeats 1000000 in
theorem Sum_any (ao : Option Addr) (cap n : Nat) (f : Nat → Int) (hn : n ≤ maxLen) (w : World) (hS : Sl w ao n f) :
    Calls Try.prog 18 #[.slice ao n cap] w fun e w' => e = .returned (.int .i64 (hsum f n)) ∧ w = w' := by
  have HS := Lib.hid hS
  unfold maxLen at hn
  clear hS
  go_enter Try.func18, Try.ntmps18
  go_wp2_with fail
  go_loop [3, 8] (fun v3 v8 => ∃ k : Nat, k ≤ n ∧ v8 = .int .i64 k ∧ v3 = .int .i64 (hsum f k)) (fun _ v8 => n - (intOf v8).toNat)
  case atStart => exact ⟨0, Nat.zero_le _, rfl, rfl⟩
  case round =>
    obtain ⟨k, hk, rfl, rfl⟩ := hrel
    by_cases hlt : k < n
    · obtain ⟨b, o, rfl, hN⟩ := HS.out.at hlt
      have c1 := hN.2 k hlt
      have HA := Lib.hid (hsum_add f k)
      clear hN
      go_wp2_with fail
      refine (Add_any _ _ _).mono ?_; rintro e w' ⟨rfl, rfl⟩
      rw [HA.out]
      go_wp2_with fail
      go_round
      case rel => exact ⟨k + 1, hlt, by go_num, rfl⟩
      case measure => simp [intOf]; omega
    · obtain rfl : k = n := by omega
      go_wp2_with fail
      go_ret
      exact ⟨rfl, rfl⟩

set_option maxHeartbeats 1000000 in
theorem RSum_any (ao : Option Addr) (cap n : Nat) (f : Nat → Int) (hn : n ≤ maxLen) (w : World) (hS : Sl w ao n f) :
    Calls Try.prog 19 #[.slice ao n cap] w fun e w' => e = .returned (.int .i64 (hsum f n)) ∧ w = w' := by
  have HS := Lib.hid hS
  unfold maxLen at hn
  clear hS
  go_enter Try.func19, Try.ntmps19
  go_wp2_with fail
  go_loop [3, 4] (fun v3 v4 => ∃ k : Nat, k ≤ n ∧ v4 = .int .i64 k ∧ v3 = .int .i64 (hsum f k)) (fun _ v4 => n - (intOf v4).toNat)
  case atStart => exact ⟨0, Nat.zero_le _, rfl, rfl⟩
  case round =>
    obtain ⟨k, hk, rfl, rfl⟩ := hrel
    by_cases hlt : k < n
    · obtain ⟨b, o, rfl, hN⟩ := HS.out.at hlt
      have c1 := hN.2 k hlt
      have b1 := hsum_bd f k
      have b2 := hold_bd (f k)
      have HA : Hid (hold (hsum f k + hold (f k)) = hsum f (k + 1)) := Lib.hid rfl
      clear hN
      go_wp2_with fail
      refine (RHold_any _ _).mono ?_; rintro e w' ⟨rfl, rfl⟩
      go_wp2_with fail
      refine (RHold_any _ _).mono ?_; rintro e w' ⟨rfl, rfl⟩
      rw [HA.out]
      go_wp2_with fail
      go_round
      case rel => exact ⟨k + 1, hlt, by go_num, rfl⟩
      case measure => simp [intOf]; omega
    · obtain rfl : k = n := by omega
      go_wp2_with fail
      go_ret
      exact ⟨rfl, rfl⟩

/-- How many equal shares. -/
def evenN (n : Int) : Nat := (min (max n 0) 256).toNat
theorem evenN_bd (n : Int) : evenN n ≤ 256 := by unfold evenN; omega

set_option maxHeartbeats 1000000 in
theorem Even_any (total x : Int) (w : World) :
    Calls Try.prog 17 #[.int .i64 total, .int .i64 x] w (RowOut w (evenN x) (deal total (evenN x) (fun _ => 1))) := by
  have hk := evenN_bd x
  have he : min (max x 0) 256 = ((evenN x : Nat) : Int) := by unfold evenN; omega
  generalize evenN x = n at *
  have hmk := run_make_row' (P := Try.prog) 22 3 (.int .i64 0) 8 Try.underlying22 int_info rfl .i64 .i64 n (by omega) (by omega)
  go_enter Try.func17, Try.ntmps17
  go_wp2_with fail
  have HR0 := Lib.hid (World.rowIs_made w (.int .i64 0) n 3)
  clear hmk he
  go_loopw [13] (fun v13 wr => ∃ k : Nat, k ≤ n ∧ v13 = .int .i64 k ∧ wr.rowIs w.heap.size 3 n (fun i => .int .i64 (if i < k then 1 else 0)) ∧ Below w.heap.size w wr) (fun v13 _ => n - (intOf v13).toNat)
  case atStart => exact ⟨0, Nat.zero_le _, rfl, HR0.out.congr (fun i hi => by simp), (Below.refl _ w).alloc (Nat.le_refl _) _⟩
  case round =>
    clear HR0
    obtain ⟨k, hkn, rfl, hr, hb⟩ := hrel
    by_cases hlt : k < n
    · have fz := hr.frozen k
      have c6 := hr.cell hlt
      have HR := Lib.hid hr
      have HB := Lib.hid hb
      clear hr hb
      go_wp2_with fail
      go_roundw
      case rel =>
        refine ⟨k + 1, hlt, by go_num, (HR.out.set k _).congr (fun j hj => ?_), below_set HB.out (Nat.le_refl _) _⟩
        by_cases e : j = k
        · subst e; rw [if_pos rfl, if_pos (by omega)]
        · rw [if_neg e]
          by_cases e2 : j < k
          · rw [if_pos e2, if_pos (by omega)]
          · rw [if_neg e2, if_neg (by omega)]
      case measure => simp [intOf]; omega
    · obtain rfl : k = n := by omega
      have hr1 : wr.rowIs w.heap.size 3 k (fun i => .int .i64 1) := hr.congr (fun i hi => by rw [if_pos hi])
      have HC := Lib.hid (Deal_any total (some ⟨w.heap.size, 0, none⟩) k k (fun _ => 1) (by omega) wr (Sl.row hr1))
      have HB := Lib.hid hb
      clear hr hb hr1
      go_wp2_with fail
      refine (HC.out).mono ?_
      rintro e w1 ⟨o, rfl, ho, hr, hb1⟩
      have HR := Lib.hid hr
      have HB1 := Lib.hid (below_then HB.out hb1)
      have ho2 : w.heap.size ≤ o := Nat.le_trans HB.out.size ho
      clear hr hb1 HC
      go_wp2_with fail
      go_ret
      exact ⟨o, rfl, ho2, HR.out, HB1.out⟩

theorem few_any (ao : Option Addr) (cap n : Nat) (w : World) :
    Calls Try.prog 9 #[.slice ao n cap] w fun e w' => e = .returned (.bool (decide (n ≤ 300))) ∧ w = w' := by
  go_enter Try.func9, Try.ntmps9
  go_wp2_with fail
  go_ret
  refine ⟨?_, rfl⟩
  have e : decide ((n : Int) ≤ 300) = decide (n ≤ 300) := by rw [decide_eq_decide]; omega
  simp [e]

def l1 : Nat → Int := fun i => ([1, 1, 1] : List Int).getD i 0
def l2 : Nat → Int := fun i => ([4, 3, 3] : List Int).getD i 0
def l3 : Nat → Int := fun i => ([0, 2, 5, -1] : List Int).getD i 0
def l4 : Nat → Int := fun i => ([0, 2, 5, 0] : List Int).getD i 0
theorem deal_1 : ∀ i, i < 3 → deal 10 3 l1 i = l2 i := by decide +kernel
theorem deal_2 : ∀ i, i < 4 → deal 7 4 l3 i = l4 i := by decide +kernel
/-- A list's numbers in a new block. -/
theorem nums_lit (w : World) (l : List Int) : Sl (w.alloc (.cells (l.map (Value.int .i64)).toArray 3)) (some ⟨w.heap.size, 0, none⟩) l.length (fun i => l.getD i 0) := by
  refine .inr ⟨w.heap.size, 0, rfl, by simp, fun i hi => ?_⟩
  have h := (Blk.new w 3 (l.map (Value.int .i64)).toArray).cell i
  rw [Nat.zero_add, h]
  simp [List.getD, hi]

set_option maxHeartbeats 2000000 in
theorem known_any (w : World) : Calls Try.prog 10 #[] w fun e w' => e = .returned (.bool true) ∧ Below w.heap.size w w' := by
  have HC1 := Lib.hid (Deal_any 10 (some ⟨w.heap.size, 0, none⟩) 3 3 l1 (by decide) _ (nums_lit w [1, 1, 1]))
  go_enter Try.func10, Try.ntmps10
  go_wp2_with fail
  refine (HC1.out).mono ?_
  rintro e w1 ⟨o, rfl, ho, hr, hb1⟩
  have HI := Lib.hid (RInts_same (some ⟨o, 0, none⟩) (some ⟨w1.heap.size, 0, none⟩) 3 3 3 _ l2 deal_1 (by decide) _ ((Sl.row hr).below ((Below.refl _ w1).alloc (Nat.le_refl _) (.cells #[.int .i64 4, .int .i64 3, .int .i64 3] 3))) (nums_lit w1 [4, 3, 3]))
  have HB1 := Lib.hid (below_then ((Below.refl _ w).alloc (Nat.le_refl _) _) hb1)
  clear hr hb1 HC1
  go_wp2_with fail
  refine (HI.out).mono ?_
  rintro e w2 ⟨rfl, hb2⟩
  have HB2 := Lib.hid (below_then (below_alloc HB1.out _) hb2)
  have HC2 := Lib.hid (Deal_any 7 (some ⟨w2.heap.size, 0, none⟩) 4 4 l3 (by decide) _ (nums_lit w2 [0, 2, 5, -1]))
  clear hb2 HI
  go_wp2_with fail
  refine (HC2.out).mono ?_
  rintro e w3 ⟨o3, rfl, ho3, hr3, hb3⟩
  have HI := Lib.hid (RInts_same (some ⟨o3, 0, none⟩) (some ⟨w3.heap.size, 0, none⟩) 4 4 4 _ l4 deal_2 (by decide) _ ((Sl.row hr3).below ((Below.refl _ w3).alloc (Nat.le_refl _) (.cells #[.int .i64 0, .int .i64 2, .int .i64 5, .int .i64 0] 3))) (nums_lit w3 [0, 2, 5, 0]))
  have HB3 := Lib.hid (below_then (below_alloc HB2.out _) hb3)
  clear hr3 hb3 HC2
  go_wp2_with fail
  refine (HI.out).mono ?_
  rintro e w4 ⟨rfl, hb4⟩
  have HB4 := Lib.hid (below_then (below_alloc HB3.out _) hb4)
  clear hb4 HI
  go_wp2_with fail
  go_ret
  exact ⟨rfl, HB4.out⟩

end Go.Proofs.Ytjgpakpofiblcaa
