/- Shares: the weights, the program's Deal, sums. -/
import Derived.Test.YtndpblgedpdjdaaDealtWalk
namespace Go.Proofs.Ytndpblgedpdjdaa
open Go.Shelf Go.RowKit Go.Lib Go.Sort
set_option linter.unusedSimpArgs false
set_option linter.unusedVariables false

/-- A weight: held, 0 instead of one below 0. -/
def wt (x : Int) : Int := if x < 0 then 0 else hold x
theorem wt_bd (x : Int) : 0 ≤ wt x ∧ wt x ≤ 1073741824 := by
  have := hold_bd x
  unfold wt
  split
  · omega
  · rename_i h
    have h' : 0 ≤ x := by omega
    unfold hold; split <;> (try split) <;> omega

theorem wt_max (x : Int) : max (hold x) 0 = wt x := by
  unfold wt
  split
  · have : hold x ≤ 0 := by unfold hold; split <;> (try split) <;> omega
    omega
  · have : 0 ≤ hold x := by unfold hold; split <;> (try split) <;> omega
    omega

/-- A slice's numbers, if it has any. -/
def Sl (w : World) (ao : Option Addr) (n : Nat) (f : Nat → Int) : Prop := n = 0 ∨ ∃ b o, ao = some ⟨b, o, none⟩ ∧ Nums w b o n f
theorem Sl.below {w w' : World} {ao : Option Addr} {n : Nat} {f : Nat → Int} (h : Sl w ao n f) (hb : Below w.heap.size w w') : Sl w' ao n f :=
  h.imp id fun ⟨b, o, e, hN⟩ => ⟨b, o, e, hN.below hb⟩
theorem Sl.row {w : World} {b n : Nat} {f : Nat → Int} (h : w.rowIs b 3 n (fun i => .int .i64 (f i))) : Sl w (some ⟨b, 0, none⟩) n f := .inr ⟨b, 0, rfl, Nums.row h⟩
theorem Sl.at {w : World} {ao : Option Addr} {n : Nat} {f : Nat → Int} (h : Sl w ao n f) {k : Nat} (hk : k < n) : ∃ b o, ao = some ⟨b, o, none⟩ ∧ Nums w b o n f := h.resolve_left (by omega)

set_option maxHeartbeats 400000 in
theorem RWeight_any (x : Int) (w : World) : Calls Try.prog 35 #[.int .i64 x] w fun e w' => e = .returned (.int .i64 (wt x)) ∧ w = w' := by
  by_cases h : x < 0
  · have e : wt x = 0 := if_pos h
    rw [e]; clear e
    go_enter Try.func35, Try.ntmps35
    go_wp2_with fail
    go_ret
    exact ⟨rfl, rfl⟩
  · have e : wt x = hold x := if_neg h
    rw [e]; clear e
    go_enter Try.func35, Try.ntmps35
    go_wp2_with fail
    refine (RHold_any _ _).mono ?_; rintro e w' ⟨rfl, rfl⟩
    go_wp2_with fail
    go_ret
    exact ⟨rfl, rfl⟩

theorem smw_bd (f : Nat → Int) (k : Nat) : 0 ≤ Sh.sm (fun i => wt (f i)) k ∧ Sh.sm (fun i => wt (f i)) k ≤ 1073741824 * k :=
  ⟨Sh.sm_nonneg fun i _ => (wt_bd (f i)).1, Sh.sm_le fun i _ => (wt_bd (f i)).2⟩

set_option maxHeartbeats 1000000 in
theorem RWeights_any (ao : Option Addr) (cap n : Nat) (f : Nat → Int) (hn : n ≤ 1048576) (w : World) (hS : Sl w ao n f) :
    Calls Try.prog 50 #[.slice ao n cap] w fun e w' => e = .returned (.int .i64 (Sh.sm (fun i => wt (f i)) n)) ∧ w = w' := by
  have HS := Lib.hid hS
  clear hS
  go_enter Try.func50, Try.ntmps50
  go_wp2_with fail
  go_loop [3, 4] (fun v3 v4 => ∃ k : Nat, k ≤ n ∧ v4 = .int .i64 k ∧ v3 = .int .i64 (Sh.sm (fun i => wt (f i)) k)) (fun _ v4 => n - (intOf v4).toNat)
  case atStart => exact ⟨0, Nat.zero_le _, rfl, rfl⟩
  case round =>
    obtain ⟨k, hk, rfl, rfl⟩ := hrel
    by_cases hlt : k < n
    · obtain ⟨b, o, rfl, hN⟩ := HS.out.at hlt
      have c1 := hN.2 k hlt
      have b1 := smw_bd f k
      have b2 := wt_bd (f k)
      have HE : Hid (Sh.sm (fun i => wt (f i)) (k + 1) = Sh.sm (fun i => wt (f i)) k + wt (f k)) := Lib.hid rfl
      clear hN
      generalize Sh.sm (fun i => wt (f i)) k = a at *
      go_wp2_with fail
      refine (RWeight_any _ _).mono ?_; rintro e w' ⟨rfl, rfl⟩
      go_wp2_with fail
      go_round
      case rel => exact ⟨k + 1, hlt, by go_num, by rw [HE.out]⟩
      case measure => simp [intOf]; omega
    · obtain rfl : k = n := by omega
      go_wp2_with fail
      go_ret
      exact ⟨rfl, rfl⟩

/-- What weighing hands back. -/
def WeighOut (w : World) (n : Nat) (W : Nat → Int) (e : Ending) (w' : World) : Prop :=
  ∃ o, e = .returned (.tuple #[.slice (some ⟨o, 0, none⟩) n n, .int .i64 (Sh.sm W n)]) ∧ w.heap.size ≤ o ∧ w'.rowIs o 3 n (fun i => .int .i64 (W i)) ∧ Below w.heap.size w w'

set_option maxHeartbeats 2000000 in
theorem weighed_any (ao : Option Addr) (cap n : Nat) (f : Nat → Int) (hn : n ≤ 1048576) (w : World) (hS : Sl w ao n f) :
    Calls Try.prog 41 #[.slice ao n cap] w (WeighOut w n (fun i => wt (f i))) := by
  have HS := Lib.hid hS
  have hmk := run_make_row' (P := Try.prog) 25 3 (.int .i64 0) 8 Try.underlying25 int_info rfl .i64 .i64 n (by omega) (by omega)
  clear hS
  go_enter Try.func41, Try.ntmps41
  go_wp2_with fail
  have HR0 := Lib.hid (World.rowIs_made w (.int .i64 0) n 3)
  clear hmk
  go_loopw [5, 13] (fun v5 v13 wr => ∃ k : Nat, k ≤ n ∧ v13 = .int .i64 k ∧ v5 = .int .i64 (Sh.sm (fun i => wt (f i)) k) ∧ wr.rowIs w.heap.size 3 n (fun i => .int .i64 (if i < k then wt (f i) else 0)) ∧ Below w.heap.size w wr) (fun _ v13 _ => n - (intOf v13).toNat)
  case atStart => exact ⟨0, Nat.zero_le _, rfl, rfl, HR0.out.congr (fun i hi => by simp), (Below.refl _ w).alloc (Nat.le_refl _) _⟩
  case round =>
    obtain ⟨k, hk, rfl, rfl, hr, hb⟩ := hrel
    by_cases hlt : k < n
    · obtain ⟨b, o, rfl, hN⟩ := (HS.out.below hb).at hlt
      have c1 := hN.2 k hlt
      have b1 := smw_bd f k
      have b2 := wt_bd (f k)
      have fz := hr.frozen k
      have c6 := hr.cell hlt
      have HR := Lib.hid hr
      have HB := Lib.hid hb
      have HE : Hid (Sh.sm (fun i => wt (f i)) (k + 1) = Sh.sm (fun i => wt (f i)) k + wt (f k)) := Lib.hid rfl
      clear hN hr hb
      generalize Sh.sm (fun i => wt (f i)) k = a at *
      have hm : max (hold (f k)) 0 = wt (f k) := wt_max (f k)
      go_wp2_with fail
      refine (Hold_any _ _).mono ?_; rintro e w' ⟨rfl, rfl⟩
      go_wp2_with fail
      go_roundw
      case rel =>
        refine ⟨k + 1, hlt, by go_num, by rw [HE.out], (HR.out.set k _).congr (fun j hj => ?_), below_set HB.out (Nat.le_refl _) _⟩
        by_cases e : j = k
        · subst e; rw [if_pos rfl, if_pos (by omega)]
        · rw [if_neg e]
          by_cases e2 : j < k
          · rw [if_pos e2, if_pos (by omega)]
          · rw [if_neg e2, if_neg (by omega)]
      case measure => simp [intOf]; omega
    · obtain rfl : k = n := by omega
      have HR := Lib.hid hr
      have HB := Lib.hid hb
      clear hr hb
      go_wp2_with fail
      refine bodyPost_ret (v := .tuple #[.slice (some ⟨w.heap.size, 0, none⟩) k k, .int .i64 (Sh.sm (fun i => wt (f i)) k)]) (by simp [results, Try.results41, go_sem]) rfl ?_
      exact ⟨w.heap.size, rfl, Nat.le_refl _, HR.out.congr (fun j hj => by rw [if_pos hj]), HB.out⟩

/-- What is dealt to each place. -/
def deal (total : Int) (n : Nat) (f : Nat → Int) (i : Nat) : Int :=
  if Sh.sm (fun i => wt (f i)) n = 0 then 0
  else if 0 ≤ hold total then Sh.dealt (hold total) (Sh.sm (fun i => wt (f i)) n) n (fun i => wt (f i)) i
  else -Sh.dealt (-hold total) (Sh.sm (fun i => wt (f i)) n) n (fun i => wt (f i)) i

theorem deals_of (t : Int) (n : Nat) (f : Nat → Int) (h0 : 0 ≤ t) (h1 : t ≤ 1073741824) (hn : n ≤ 1048576) (hs : ¬ Sh.sm (fun i => wt (f i)) n = 0) : Deals t (Sh.sm (fun i => wt (f i)) n) n (fun i => wt (f i)) := by
  have hb := smw_bd f n
  exact ⟨h0, h1, by omega, by omega, rfl, fun i _ => (wt_bd (f i)).1, fun i _ => (wt_bd (f i)).2, hn⟩

theorem dealt_bd {t S : Int} {n : Nat} {W : Nat → Int} (D : Deals t S n W) {i : Nat} (hi : i < n) : 0 ≤ Sh.dealt t S n W i ∧ Sh.dealt t S n W i ≤ 1073741825 := by
  have h0 := D.q0 hi
  have h1 := D.q1 hi
  unfold Sh.dealt; split <;> omega

set_option maxHeartbeats 2000000 in
theorem Deal_any (total : Int) (ao : Option Addr) (cap n : Nat) (f : Nat → Int) (hn : n ≤ 1048576) (w : World) (hS : Sl w ao n f) :
    Calls Try.prog 26 #[.int .i64 total, .slice ao n cap] w (RowOut w n (deal total n f)) := by
  have hb := hold_bd total
  have HC := Lib.hid (weighed_any ao cap n f hn w hS)
  have hD : ∀ i, deal total n f i = if Sh.sm (fun i => wt (f i)) n = 0 then 0 else if 0 ≤ hold total then Sh.dealt (hold total) (Sh.sm (fun i => wt (f i)) n) n (fun i => wt (f i)) i
    else -Sh.dealt (-hold total) (Sh.sm (fun i => wt (f i)) n) n (fun i => wt (f i)) i := fun _ => rfl
  have HDO := fun h0 h1 hs => deals_of (hold total) n f h0 h1 hn hs
  have HDN := fun h0 h1 hs => deals_of (-hold total) n f h0 h1 hn hs
  have HD1 := Lib.hid HDO
  have HD2 := Lib.hid HDN
  have HD := Lib.hid hD
  have hmk := run_make_row' (P := Try.prog) 25 3 (.int .i64 0) 8 Try.underlying25 int_info rfl .i64 .i64 n (by omega) (by omega)
  have HMK := Lib.hid hmk
  clear hS HDO HDN hD hmk
  go_enter Try.func26, Try.ntmps26
  go_wp2_with fail
  refine (HC.out).mono ?_
  rintro e w1 ⟨o, rfl, ho, hr, hb1⟩
  have HR := Lib.hid hr
  have HB := Lib.hid hb1
  clear hr hb1 HC
  generalize Sh.sm (fun i => wt (f i)) n = S at *
  go_wp2_with fail
  refine (Hold_any _ _).mono ?_; rintro e w' ⟨rfl, rfl⟩
  by_cases hs : S = 0
  · have hs0 : (S == 0) = true := by simp [hs]
    have hmk := HMK.out
    have HS := Lib.hid hs
    clear hs
    go_wp2_with fail
    go_ret
    exact ⟨w1.heap.size, rfl, HB.out.size, (World.rowIs_made w1 (.int .i64 0) n 3).congr (fun i hi => by rw [HD.out, if_pos HS.out]), below_alloc HB.out _⟩
  · have hs0 : (S == 0) = false := by simp [hs]
    have HS := Lib.hid hs
    clear hs
    by_cases ht : 0 ≤ hold total
    · have HC := Lib.hid (dealt_any (hold total) S n o 0 n (fun i => wt (f i)) (HD1.out ht (by omega) HS.out) w1 (Nums.row HR.out))
      go_wp2_with fail
      refine (HC.out).mono ?_
      rintro e w2 ⟨o2, rfl, ho2, hr2, hb2⟩
      have HR2 := Lib.hid hr2
      have HB2 := Lib.hid hb2
      clear hr2 hb2 HC
      go_wp2_with fail
      go_ret
      exact ⟨o2, rfl, Nat.le_trans HB.out.size ho2, HR2.out.congr (fun i hi => by rw [HD.out, if_neg HS.out, if_pos ht]), below_then HB.out HB2.out⟩
    · have HC := Lib.hid (dealt_any (-hold total) S n o 0 n (fun i => wt (f i)) (HD2.out (by omega) (by omega) HS.out) w1 (Nums.row HR.out))
      have HDD := Lib.hid (HD2.out (by omega) (by omega) HS.out)
      go_wp2_with fail
      refine (HC.out).mono ?_
      rintro e w2 ⟨o2, rfl, ho2, hr2, hb2⟩
      have HR2 := Lib.hid hr2
      have HB2 := Lib.hid (below_then HB.out hb2)
      have ho3 : w.heap.size ≤ o2 := Nat.le_trans HB.out.size ho2
      clear hr2 hb2 HC
      go_wp2_with fail
      go_loopw [34] (fun v34 wr => ∃ k : Nat, k ≤ n ∧ v34 = .int .i64 k ∧ wr.rowIs o2 3 n (fun i => .int .i64 (if i < k then -Sh.dealt (-hold total) S n (fun i => wt (f i)) i else Sh.dealt (-hold total) S n (fun i => wt (f i)) i)) ∧ Below w.heap.size w wr) (fun v34 _ => n - (intOf v34).toNat)
      case atStart => exact ⟨0, Nat.zero_le _, rfl, HR2.out.congr (fun i hi => by simp), HB2.out⟩
      case round =>
        obtain ⟨k, hk, rfl, hr, hb⟩ := hrel
        by_cases hlt : k < n
        · have fz := hr.frozen k
          have c6 := hr.cell hlt
          simp only [Nat.lt_irrefl, if_false] at c6
          have hdb := dealt_bd HDD.out hlt
          have HR := Lib.hid hr
          have HB := Lib.hid hb
          clear hr hb
          go_wp2_with fail
          go_roundw
          case rel =>
            refine ⟨k + 1, hlt, by go_num, (HR.out.set k _).congr (fun j hj => ?_), below_set HB.out ho3 _⟩
            by_cases e : j = k
            · subst e; rw [if_pos rfl, if_pos (by omega)]
            · rw [if_neg e]
              by_cases e2 : j < k
              · rw [if_pos e2, if_pos (by omega)]
              · rw [if_neg e2, if_neg (by omega)]
          case measure => simp [intOf]; omega
        · obtain rfl : k = n := by omega
          have HR := Lib.hid hr
          have HB := Lib.hid hb
          clear hr hb
          go_wp2_with fail
          go_ret
          exact ⟨o2, rfl, ho3, HR.out.congr (fun i hi => by rw [HD.out, if_neg HS.out, if_neg (c := 0 ≤ hold total) (by omega), if_pos hi]), HB.out⟩

end Go.Proofs.Ytndpblgedpdjdaa
