/- Alignment: offsets, margins that are auto, some; the fixed calls of the statements. -/
import Derived.Test.YtohnhgchoppgmaaAlignLines
import Derived.Laws.BitsLemmas
namespace Go.Proofs.Ytohnhgchoppgmaa
open Go.Shelf Go.RowKit Go.Lib Go.Sort
set_option linter.unusedSimpArgs false
set_option linter.unusedVariables false

theorem and63 (n : Int) : bits .and .i64 n 63 = n % 64 := by
  have h63 : (BitVec.ofInt 64 63).toNat = 2 ^ 6 - 1 := by decide
  have key : (BitVec.ofInt 64 n &&& BitVec.ofInt 64 63).toNat = (n % ((2 ^ 64 : Nat) : Int)).toNat % 2 ^ 6 := by
    rw [BitVec.toNat_and, BitVec.toNat_ofInt, h63, Nat.and_two_pow_sub_one_eq_mod]
  show IntKind.i64.wrap ((BitVec.ofInt 64 n &&& BitVec.ofInt 64 63).toNat : Nat) = n % 64
  rw [key, IntKind.wrap_i64]
  omega

/-- Not too many. -/
def someN (n : Int) : Nat := (n % 64).toNat
theorem someN_bd (n : Int) : someN n ≤ 63 := by unfold someN; omega
theorem some_any (n : Int) (w : World) : Calls Try.prog 8 #[.int .i64 n] w fun e w' => e = .returned (.int .i64 (someN n)) ∧ w = w' := by
  have h := and63 n
  have e : n % 64 = (someN n : Int) := by unfold someN; omega
  rw [e] at h
  clear e
  go_enter Try.func8, Try.ntmps8
  go_wp2_with fail
  go_ret
  exact ⟨rfl, rfl⟩

/-- How far something begins from the start. -/
def offs (way room size : Int) : Int := if way = 2 then subH room size else if way = 3 then subH room size / 2 else 0

theorem Offset_any (way room size : Int) (w : World) : Calls Try.prog 15 #[.int .i64 way, .int .i64 room, .int .i64 size] w fun e w' => e = .returned (.int .i64 (offs way room size)) ∧ w = w' := by
  have hb := subH_bd room size
  by_cases h2 : way = 2
  · have e : offs way room size = subH room size := if_pos h2
    rw [e]; clear e
    subst h2
    go_enter Try.func15, Try.ntmps15
    go_wp2_with fail
    refine (Sub_any _ _ _).mono ?_; rintro e w' ⟨rfl, rfl⟩
    go_wp2_with fail
    go_ret
    exact ⟨rfl, rfl⟩
  · by_cases h3 : way = 3
    · have e : offs way room size = subH room size / 2 := by unfold offs; rw [if_neg h2, if_pos h3]
      rw [e]; clear e
      subst h3
      clear h2
      go_enter Try.func15, Try.ntmps15
      go_wp2_with fail
      refine (Sub_any _ _ _).mono ?_; rintro e w' ⟨rfl, rfl⟩
      go_wp2_with fail
      refine (half_any _ hb.1 hb.2 _).mono ?_; rintro e w' ⟨rfl, rfl⟩
      go_wp2_with fail
      go_ret
      exact ⟨rfl, rfl⟩
    · have e : offs way room size = 0 := by unfold offs; rw [if_neg h2, if_neg h3]
      rw [e]; clear e
      have t2 : (way == 2) = false := by simp [h2]
      have t3 : (way == 3) = false := by simp [h3]
      clear h2 h3
      go_enter Try.func15, Try.ntmps15
      go_wp2_with fail
      refine (Sub_any _ _ _).mono ?_; rintro e w' ⟨rfl, rfl⟩
      go_wp2_with fail
      go_ret
      exact ⟨rfl, rfl⟩

theorem ROffset_any (way room size : Int) (w : World) : Calls Try.prog 16 #[.int .i64 way, .int .i64 room, .int .i64 size] w fun e w' => e = .returned (.int .i64 (offs way room size)) ∧ w = w' := by
  have hb := subH_bd room size
  have h1 := hold_bd room
  have h2 := hold_bd size
  have HS : Hid (hold (hold room - hold size) = subH room size) := Lib.hid rfl
  by_cases h2 : way = 2
  · have e : offs way room size = subH room size := if_pos h2
    rw [e]; clear e
    subst h2
    go_enter Try.func16, Try.ntmps16
    go_wp2_with fail
    refine (RHold_any _ _).mono ?_; rintro e w' ⟨rfl, rfl⟩
    go_wp2_with fail
    refine (RHold_any _ _).mono ?_; rintro e w' ⟨rfl, rfl⟩
    go_wp2_with fail
    refine (RHold_any _ _).mono ?_; rintro e w' ⟨rfl, rfl⟩
    rw [HS.out]
    go_wp2_with fail
    go_ret
    exact ⟨rfl, rfl⟩
  · by_cases h3 : way = 3
    · have e : offs way room size = subH room size / 2 := by unfold offs; rw [if_neg h2, if_pos h3]
      rw [e]; clear e
      subst h3
      clear h2
      go_enter Try.func16, Try.ntmps16
      go_wp2_with fail
      refine (RHold_any _ _).mono ?_; rintro e w' ⟨rfl, rfl⟩
      go_wp2_with fail
      refine (RHold_any _ _).mono ?_; rintro e w' ⟨rfl, rfl⟩
      go_wp2_with fail
      refine (RHold_any _ _).mono ?_; rintro e w' ⟨rfl, rfl⟩
      rw [HS.out]
      go_wp2_with fail
      refine (RFloor_half _ hb.1 hb.2 _).mono ?_; rintro e w' ⟨rfl, rfl⟩
      go_wp2_with fail
      go_ret
      exact ⟨rfl, rfl⟩
    · have e : offs way room size = 0 := by unfold offs; rw [if_neg h2, if_neg h3]
      rw [e]; clear e
      have t2 : (way == 2) = false := by simp [h2]
      have t3 : (way == 3) = false := by simp [h3]
      clear h2 h3
      go_enter Try.func16, Try.ntmps16
      go_wp2_with fail
      refine (RHold_any _ _).mono ?_; rintro e w' ⟨rfl, rfl⟩
      go_wp2_with fail
      refine (RHold_any _ _).mono ?_; rintro e w' ⟨rfl, rfl⟩
      go_wp2_with fail
      refine (RHold_any _ _).mono ?_; rintro e w' ⟨rfl, rfl⟩
      go_wp2_with fail
      go_ret
      exact ⟨rfl, rfl⟩

/-- A slice's bools, if it has any. -/
def Bl (w : World) (ao : Option Addr) (n : Nat) (f : Nat → Bool) : Prop := n = 0 ∨ ∃ b o, ao = some ⟨b, o, none⟩ ∧ b < w.heap.size ∧ ∀ i, i < n → w.cell? ⟨b, o + i, none⟩ = some (.bool (f i))
theorem Bl.below {w w' : World} {ao : Option Addr} {n : Nat} {f : Nat → Bool} (h : Bl w ao n f) (hb : Below w.heap.size w w') : Bl w' ao n f :=
  h.imp id fun ⟨b, o, e, h1, h2⟩ => ⟨b, o, e, Nat.lt_of_lt_of_le h1 hb.size, fun i hi => (hb.cell (p := ⟨b, o + i, none⟩) h1).trans (h2 i hi)⟩
theorem Bl.at {w : World} {ao : Option Addr} {n : Nat} {f : Nat → Bool} (h : Bl w ao n f) {k : Nat} (hk : k < n) : ∃ b o, ao = some ⟨b, o, none⟩ ∧ b < w.heap.size ∧ ∀ i, i < n → w.cell? ⟨b, o + i, none⟩ = some (.bool (f i)) := h.resolve_left (by omega)

/-- One for each margin that is auto. -/
def oneFor (f : Nat → Bool) (i : Nat) : Int := if f i = true then 1 else 0

theorem autos_eq (free : Int) (n : Nat) (f : Nat → Int) (i : Nat) : deal (max (hold free) 0) n f i = if free ≤ 0 then 0 else deal free n f i := by
  by_cases h : free ≤ 0
  · rw [if_pos h]
    have e : max (hold free) 0 = 0 := by
      have : hold free ≤ 0 := by unfold hold; split <;> (try split) <;> omega
      omega
    rw [e]
    unfold deal
    split
    · rfl
    · rw [show hold 0 = 0 from rfl, if_pos (by decide), Sh.dealt_zero]
  · rw [if_neg h]
    have e : max (hold free) 0 = hold free := by
      have : 0 ≤ hold free := by unfold hold; split <;> (try split) <;> omega
      omega
    rw [e]
    unfold deal
    rw [hold_hold]

set_option maxHeartbeats 1000000 in
theorem Autos_any (free : Int) (ao : Option Addr) (cap n : Nat) (f : Nat → Bool) (hn : n ≤ 1024) (w : World) (hS : Bl w ao n f) :
    Calls Try.prog 13 #[.int .i64 free, .slice ao n cap] w (RowOut w n (deal (max (hold free) 0) n (oneFor f))) := by
  have HS := Lib.hid hS
  have hmk := run_make_row' (P := Try.prog) 24 3 (.int .i64 0) 8 Try.underlying24 int_info rfl .i64 .i64 n (by omega) (by omega)
  clear hS
  go_enter Try.func13, Try.ntmps13
  go_wp2_with fail
  have HR0 := Lib.hid (World.rowIs_made w (.int .i64 0) n 3)
  clear hmk
  go_loopw [13] (fun v13 wr => ∃ k : Nat, k ≤ n ∧ v13 = .int .i64 k ∧ wr.rowIs w.heap.size 3 n (fun i => .int .i64 (if i < k then oneFor f i else 0)) ∧ Below w.heap.size w wr) (fun v13 _ => n - (intOf v13).toNat)
  case atStart => exact ⟨0, Nat.zero_le _, rfl, HR0.out.congr (fun i hi => by simp), (Below.refl _ w).alloc (Nat.le_refl _) _⟩
  case round =>
    clear HR0
    obtain ⟨k, hkn, rfl, hr, hb⟩ := hrel
    by_cases hlt : k < n
    · obtain ⟨bb, oo, rfl, hlt1, hN⟩ := HS.out.at hlt
      have c1 := (hb.cell (p := ⟨bb, oo + k, none⟩) hlt1).trans (hN k hlt)
      have fz := hr.frozen k
      have c6 := hr.cell hlt
      have kz : (k : Int) < (n : Int) := by omega
      have HR := Lib.hid hr
      have HB := Lib.hid hb
      clear hr hb hN
      cases hfk : f k with
      | true =>
        rw [hfk] at c1
        have HE : Hid (oneFor f k = 1) := Lib.hid (if_pos hfk)
        clear hfk
        go_wp2_with fail
        go_roundw
        case rel =>
          refine ⟨k + 1, hlt, by go_num, (HR.out.set k _).congr (fun j hj => ?_), below_set HB.out (Nat.le_refl _) _⟩
          by_cases e : j = k
          · subst e; rw [if_pos rfl, if_pos (by omega), HE.out]
          · rw [if_neg e]
            by_cases e2 : j < k
            · rw [if_pos e2, if_pos (by omega)]
            · rw [if_neg e2, if_neg (by omega)]
        case measure => simp [intOf]; omega
      | false =>
        rw [hfk] at c1
        have HE : Hid (oneFor f k = 0) := Lib.hid (if_neg (by simp [hfk]))
        clear hfk
        go_wp2_with fail
        go_roundw
        case rel =>
          refine ⟨k + 1, hlt, by go_num, HR.out.congr (fun j hj => ?_), HB.out⟩
          by_cases e : j = k
          · subst e; rw [if_neg (by omega), if_pos (by omega), HE.out]
          · by_cases e2 : j < k
            · rw [if_pos e2, if_pos (by omega)]
            · rw [if_neg e2, if_neg (by omega)]
        case measure => simp [intOf]; omega
    · obtain rfl : k = n := by omega
      have hr1 : wr.rowIs w.heap.size 3 k (fun i => .int .i64 (oneFor f i)) := hr.congr (fun i hi => by rw [if_pos hi])
      have HC := Lib.hid (fun x => Deal_any x (some ⟨w.heap.size, 0, none⟩) k k (oneFor f) (by omega) wr (Sl.row hr1))
      have HB := Lib.hid hb
      clear hr hb hr1
      go_wp2_with fail
      refine (Hold_any _ _).mono ?_; rintro e w' ⟨rfl, rfl⟩
      go_wp2_with fail
      refine (HC.out _).mono ?_
      rintro e w1 ⟨o, rfl, ho, hr, hb1⟩
      have HR := Lib.hid hr
      have HB1 := Lib.hid (below_then HB.out hb1)
      have ho2 : w.heap.size ≤ o := Nat.le_trans HB.out.size ho
      clear hr hb1 HC
      go_wp2_with fail
      go_ret
      exact ⟨o, rfl, ho2, HR.out, HB1.out⟩

set_option maxHeartbeats 1000000 in
theorem RAutos_any (free : Int) (ao : Option Addr) (cap n : Nat) (f : Nat → Bool) (hn : n ≤ 1024) (w : World) (hS : Bl w ao n f) :
    Calls Try.prog 14 #[.int .i64 free, .slice ao n cap] w (RowOut w n (fun i => if free ≤ 0 then 0 else deal free n (oneFor f) i)) := by
  have HS := Lib.hid hS
  have hmk := run_make_row' (P := Try.prog) 24 3 (.int .i64 0) 8 Try.underlying24 int_info rfl .i64 .i64 n (by omega) (by omega)
  have HMK := Lib.hid hmk
  clear hS
  go_enter Try.func14, Try.ntmps14
  go_wp2_with fail
  have HR0 := Lib.hid (World.rowIs_made w (.int .i64 0) n 3)
  clear hmk
  go_loopw [6] (fun v6 wr => ∃ k : Nat, k ≤ n ∧ v6 = .int .i64 k ∧ wr.rowIs w.heap.size 3 n (fun i => .int .i64 (if i < k then oneFor f i else 0)) ∧ Below w.heap.size w wr) (fun v6 _ => n - (intOf v6).toNat)
  case atStart => exact ⟨0, Nat.zero_le _, rfl, HR0.out.congr (fun i hi => by simp), (Below.refl _ w).alloc (Nat.le_refl _) _⟩
  case round =>
    clear HR0
    obtain ⟨k, hkn, rfl, hr, hb⟩ := hrel
    by_cases hlt : k < n
    · obtain ⟨bb, oo, rfl, hlt1, hN⟩ := HS.out.at hlt
      have c1 := (hb.cell (p := ⟨bb, oo + k, none⟩) hlt1).trans (hN k hlt)
      have fz := hr.frozen k
      have c6 := hr.cell hlt
      have kz : (k : Int) < (n : Int) := by omega
      have HR := Lib.hid hr
      have HB := Lib.hid hb
      clear hr hb hN
      cases hfk : f k with
      | true =>
        rw [hfk] at c1
        have HE : Hid (oneFor f k = 1) := Lib.hid (if_pos hfk)
        clear hfk
        go_wp2_with fail
        go_roundw
        case rel =>
          refine ⟨k + 1, hlt, by go_num, (HR.out.set k _).congr (fun j hj => ?_), below_set HB.out (Nat.le_refl _) _⟩
          by_cases e : j = k
          · subst e; rw [if_pos rfl, if_pos (by omega), HE.out]
          · rw [if_neg e]
            by_cases e2 : j < k
            · rw [if_pos e2, if_pos (by omega)]
            · rw [if_neg e2, if_neg (by omega)]
        case measure => simp [intOf]; omega
      | false =>
        rw [hfk] at c1
        have HE : Hid (oneFor f k = 0) := Lib.hid (if_neg (by simp [hfk]))
        clear hfk
        go_wp2_with fail
        go_roundw
        case rel =>
          refine ⟨k + 1, hlt, by go_num, HR.out.congr (fun j hj => ?_), HB.out⟩
          by_cases e : j = k
          · subst e; rw [if_neg (by omega), if_pos (by omega), HE.out]
          · by_cases e2 : j < k
            · rw [if_pos e2, if_pos (by omega)]
            · rw [if_neg e2, if_neg (by omega)]
        case measure => simp [intOf]; omega
    · obtain rfl : k = n := by omega
      by_cases hf : free ≤ 0
      · have HB := Lib.hid hb
        have hmk := HMK.out
        clear hr hb
        go_wp2_with fail
        go_ret
        exact ⟨wr.heap.size, rfl, HB.out.size, (World.rowIs_made wr (.int .i64 0) k 3).congr (fun i hi => rfl), below_alloc HB.out _⟩
      · have hr1 : wr.rowIs w.heap.size 3 k (fun i => .int .i64 (oneFor f i)) := hr.congr (fun i hi => by rw [if_pos hi])
        have HC := Lib.hid (fun x => RDeal_any x (some ⟨w.heap.size, 0, none⟩) k k (oneFor f) (by omega) wr (Sl.row hr1))
        have HB := Lib.hid hb
        clear hr hb hr1
        go_wp2_with fail
        refine (HC.out _).mono ?_
        rintro e w1 ⟨o, rfl, ho, hr, hb1⟩
        have HR := Lib.hid hr
        have HB1 := Lib.hid (below_then HB.out hb1)
        have ho2 : w.heap.size ≤ o := Nat.le_trans HB.out.size ho
        clear hr hb1 HC
        go_wp2_with fail
        go_ret
        exact ⟨o, rfl, ho2, HR.out.congr (fun i hi => rfl), HB1.out⟩

theorem Spaces_k (way : Int) (l : List Int) (hl : l.length = 4) (h : ∀ i, i < 4 → spaces 10 3 way i = l.getD i 0) (w : World) : Calls Try.prog 10 #[.int .i64 10, .int .i64 3, .int .i64 way] w (RowOut w 4 (fun i => l.getD i 0)) := by
  refine (Spaces_any 10 3 way w).mono ?_
  rintro e w1 ⟨o, he, ho, hr, hb⟩
  exact ⟨o, he, ho, hr.congr (fun i hi => by rw [show hold 10 = 10 from rfl, show manyN 3 = 3 from rfl, h i hi]), hb⟩
theorem sp_3 : ∀ i, i < 4 → spaces 10 3 3 i = ([0, 5, 5, 0] : List Int).getD i 0 := by decide +kernel
theorem sp_4 : ∀ i, i < 4 → spaces 10 3 4 i = ([2, 3, 3, 2] : List Int).getD i 0 := by decide +kernel
theorem sp_5 : ∀ i, i < 4 → spaces 10 3 5 i = ([3, 3, 2, 2] : List Int).getD i 0 := by decide +kernel
theorem sp_2 : ∀ i, i < 4 → spaces 10 3 2 i = ([5, 0, 0, 5] : List Int).getD i 0 := by decide +kernel

/-- A row held against a list that is laid behind it. -/
theorem Ints_lit (o : Nat) (l : List Int) (hl : l.length = 4) (w1 : World) (hr : w1.rowIs o 3 4 (fun i => .int .i64 (l.getD i 0))) :
    Calls Try.prog 9 #[.slice (some ⟨o, 0, none⟩) 4 4, .slice (some ⟨w1.heap.size, 0, none⟩) 4 4] (w1.alloc (.cells (l.map (Value.int .i64)).toArray 3)) fun e w' =>
      e = .returned (.bool true) ∧ Below (w1.alloc (.cells (l.map (Value.int .i64)).toArray 3)).heap.size (w1.alloc (.cells (l.map (Value.int .i64)).toArray 3)) w' :=
  RInts_same _ _ 4 4 4 _ _ (fun i hi => rfl) (by decide) _ ((Sl.row hr).below ((Below.refl _ w1).alloc (Nat.le_refl _) _)) (hl ▸ nums_lit w1 l)

set_option maxHeartbeats 2000000 in
theorem known_any (w : World) : Calls Try.prog 12 #[] w fun e w' => e = .returned (.bool true) ∧ Below w.heap.size w w' := by
  go_enter Try.func12, Try.ntmps12
  go_wp2_with fail
  refine (Spaces_k 3 [0, 5, 5, 0] rfl sp_3 _).mono ?_
  rintro e w1 ⟨o1, rfl, ho1, hr1, hb1⟩
  have HI1 := Lib.hid (Ints_lit o1 [0, 5, 5, 0] rfl w1 hr1)
  have HB1 := Lib.hid hb1
  clear hr1 hb1 ho1
  go_wp2_with fail
  refine (HI1.out).mono ?_
  rintro e w2 ⟨rfl, hb2⟩
  have HB2 := Lib.hid (below_then (below_alloc HB1.out _) hb2)
  clear hb2 HI1
  go_wp2_with fail
  refine (Spaces_k 4 [2, 3, 3, 2] rfl sp_4 _).mono ?_
  rintro e w3 ⟨o3, rfl, ho3, hr3, hb3⟩
  have HI1 := Lib.hid (Ints_lit o3 [2, 3, 3, 2] rfl w3 hr3)
  have HB3 := Lib.hid (below_then HB2.out hb3)
  clear hr3 hb3 ho3
  go_wp2_with fail
  refine (HI1.out).mono ?_
  rintro e w4 ⟨rfl, hb4⟩
  have HB4 := Lib.hid (below_then (below_alloc HB3.out _) hb4)
  clear hb4 HI1
  go_wp2_with fail
  refine (Spaces_k 5 [3, 3, 2, 2] rfl sp_5 _).mono ?_
  rintro e w5 ⟨o5, rfl, ho5, hr5, hb5⟩
  have HI1 := Lib.hid (Ints_lit o5 [3, 3, 2, 2] rfl w5 hr5)
  have HB5 := Lib.hid (below_then HB4.out hb5)
  clear hr5 hb5 ho5
  go_wp2_with fail
  refine (HI1.out).mono ?_
  rintro e w6 ⟨rfl, hb6⟩
  have HB6 := Lib.hid (below_then (below_alloc HB5.out _) hb6)
  clear hb6 HI1
  go_wp2_with fail
  refine (Spaces_k 2 [5, 0, 0, 5] rfl sp_2 _).mono ?_
  rintro e w7 ⟨o7, rfl, ho7, hr7, hb7⟩
  have HI1 := Lib.hid (Ints_lit o7 [5, 0, 0, 5] rfl w7 hr7)
  have HB7 := Lib.hid (below_then HB6.out hb7)
  clear hr7 hb7 ho7
  go_wp2_with fail
  refine (HI1.out).mono ?_
  rintro e w8 ⟨rfl, hb8⟩
  have HB8 := Lib.hid (below_then (below_alloc HB7.out _) hb8)
  clear hb8 HI1
  go_wp2_with fail
  go_ret
  exact ⟨rfl, HB8.out⟩

end Go.Proofs.Ytohnhgchoppgmaa
