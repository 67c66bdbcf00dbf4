/- The reference's Deal: what is left goes to the neediest, one by one. -/
import Derived.Test.YtndpblgedpdjdaaShareWalks
import Derived.Test.YtndpblgedpdjdaaSmall
namespace Go.Proofs.Ytndpblgedpdjdaa
open Go.Shelf Go.RowKit Go.Lib Go.Sort
set_option linter.unusedSimpArgs false
set_option linter.unusedVariables false

/-- What is still asked for, and what has been given, behind c rounds. -/
def restC (n : Nat) (r : Nat → Int) (c j : Nat) : Int := if Sh.rank n r j < c then -1 else r j
def outC (t S : Int) (n : Nat) (W : Nat → Int) (c j : Nat) : Int := Sh.q t S W j + if Sh.rank n (Sh.rs t S W) j < c then 1 else 0

theorem restC_zero (n : Nat) (r : Nat → Int) (j : Nat) : restC n r 0 j = r j := if_neg (Nat.not_lt_zero _)
theorem outC_zero (t S : Int) (n : Nat) (W : Nat → Int) (j : Nat) : outC t S n W 0 j = Sh.q t S W j := by unfold outC; rw [if_neg (Nat.not_lt_zero _)]; omega

/-- The first of the neediest is the next in turn. -/
theorem neediest {n c b : Nat} {r : Nat → Int} (h0 : ∀ i, i < n → 0 ≤ r i) (hc : c < n) (hb : b < n) (h1 : ∀ j, j < n → restC n r c j ≤ restC n r c b) (h2 : ∀ j, j < b → restC n r c j < restC n r c b) : Sh.rank n r b = c := by
  obtain ⟨k, hk, hkc⟩ := Sh.rank_surj n r c hc
  have ek : restC n r c k = r k := if_neg (by omega)
  have hkb := h1 k hk
  rw [ek] at hkb
  have hk0 := h0 k hk
  have hnb : ¬ Sh.rank n r b < c := fun h => by
    have : restC n r c b = -1 := if_pos h
    omega
  have eb : restC n r c b = r b := if_neg hnb
  rw [eb] at hkb
  by_cases e : b = k
  · subst e; exact hkc
  · have ha : Sh.ahead r b k = true := by
      rw [Sh.ahead_iff]
      rcases Int.lt_or_le (r k) (r b) with h | h
      · exact .inl h
      · right
        refine ⟨by omega, ?_⟩
        rcases Nat.lt_or_ge k b with hlt | hge
        · have := h2 k hlt
          rw [ek, eb] at this; omega
        · omega
    have := Sh.rank_lt (n := n) hb ha
    omega

theorem restC_step {n c b : Nat} {r : Nat → Int} (hb : b < n) (hr : Sh.rank n r b = c) {j : Nat} (hj : j < n) : restC n r (c + 1) j = if j = b then -1 else restC n r c j := by
  unfold restC
  by_cases e : j = b
  · subst e; rw [if_pos rfl, if_pos (by omega)]
  · rw [if_neg e]
    have hne : Sh.rank n r j ≠ c := fun h => e (Sh.rank_inj hj hb (h.trans hr.symm))
    by_cases h : Sh.rank n r j < c
    · rw [if_pos h, if_pos (by omega)]
    · rw [if_neg h, if_neg (by omega)]
theorem outC_step {t S : Int} {n c b : Nat} {W : Nat → Int} (hb : b < n) (hr : Sh.rank n (Sh.rs t S W) b = c) {j : Nat} (hj : j < n) : outC t S n W (c + 1) j = if j = b then outC t S n W c b + 1 else outC t S n W c j := by
  unfold outC
  by_cases e : j = b
  · subst e; rw [if_pos rfl, if_pos (by omega), if_neg (by omega)]; omega
  · rw [if_neg e]
    have hne : Sh.rank n (Sh.rs t S W) j ≠ c := fun h => e (Sh.rank_inj hj hb (h.trans hr.symm))
    by_cases h : Sh.rank n (Sh.rs t S W) j < c
    · rw [if_pos h, if_pos (by omega)]
    · rw [if_neg h, if_neg (by omega)]
theorem outC_all {t S : Int} {n L : Nat} {W : Nat → Int} (hL : Sh.left t S W n = L) (j : Nat) : outC t S n W L j = Sh.dealt t S n W j := by
  unfold outC Sh.dealt
  rw [hL]
  by_cases h : Sh.rank n (Sh.rs t S W) j < L
  · rw [if_pos h, if_pos (by omega)]
  · rw [if_neg h, if_neg (by omega)]

/-- The best so far: the first of the greatest. -/
structure BestTo (R : Nat → Int) (i b : Nat) : Prop where
  lt : b < i
  all : ∀ j, j < i → R j ≤ R b
  first : ∀ j, j < b → R j < R b
theorem BestTo.start (R : Nat → Int) : BestTo R 1 0 := ⟨by decide, fun j hj => by obtain rfl : j = 0 := by omega
                                                                                  exact Int.le_refl _, fun j hj => by omega⟩
theorem BestTo.up {R : Nat → Int} {i b : Nat} (h : BestTo R i b) (hg : R b < R i) : BestTo R (i + 1) i := by
  refine ⟨by omega, fun j hj => ?_, fun j hj => ?_⟩
  · by_cases e : j = i
    · subst e; exact Int.le_refl _
    · have := h.all j (by omega); omega
  · have := h.all j hj; omega
theorem BestTo.stay {R : Nat → Int} {i b : Nat} (h : BestTo R i b) (hg : ¬ R b < R i) : BestTo R (i + 1) b := by
  refine ⟨by have := h.lt; omega, fun j hj => ?_, h.first⟩
  by_cases e : j = i
  · subst e; omega
  · exact h.all j (by omega)

set_option maxHeartbeats 8000000 in
theorem RDeal_pos (total : Int) (ht : 0 ≤ hold total) (ao : Option Addr) (cap n : Nat) (f : Nat → Int) (hn : n ≤ 1048576) (w : World) (hS : Sl w ao n f) :
    Calls Try.prog 33 #[.int .i64 total, .slice ao n cap] w (RowOut w n (deal total n f)) := by
  have hb := hold_bd total
  have HSL := Lib.hid hS
  have HC := Lib.hid (fun w' (hb : Below w.heap.size w w') => RWeights_any ao cap n f hn w' (hS.below hb))
  have hD : ∀ i, deal total n f i = if Sh.sm (fun i => wt (f i)) n = 0 then 0 else Sh.dealt (hold total) (Sh.sm (fun i => wt (f i)) n) n (fun i => wt (f i)) i := fun i => by
    unfold deal; rw [if_pos ht]
  have HDO := fun hs => deals_of (hold total) n f ht hb.2 hn hs
  have HD1 := Lib.hid HDO
  have HD := Lib.hid hD
  have hmk := run_make_row' (P := Try.prog) 25 3 (.int .i64 0) 8 Try.underlying25 int_info rfl .i64 .i64 n (by omega) (by omega)
  clear hS HDO hD
  go_enter Try.func33, Try.ntmps33
  go_wp2_with fail
  have hb1 : Below w.heap.size w (w.alloc (.cells (madeCells #[.int .i64 0] n) 3)) := (Below.refl _ w).alloc (Nat.le_refl _) _
  have HB1 := Lib.hid hb1
  have HR0 := Lib.hid (World.rowIs_made w (.int .i64 0) n 3)
  clear hb1
  refine (HC.out _ HB1.out).mono ?_; rintro e w' ⟨rfl, rfl⟩
  clear HC
  generalize hSS : Sh.sm (fun i => wt (f i)) n = S at *
  have HSS := Lib.hid hSS
  clear hSS
  go_wp2_with fail
  refine (RHold_any _ _).mono ?_; rintro e w' ⟨rfl, rfl⟩
  by_cases hs : S = 0
  · have hs0 : (S == 0) = true := by simp [hs]
    have HS := Lib.hid hs
    clear hs hmk
    go_wp2_with fail
    go_ret
    exact ⟨w.heap.size, rfl, Nat.le_refl _, HR0.out.congr (fun i hi => by rw [HD.out, if_pos HS.out]), HB1.out⟩
  · have hs0 : (S == 0) = false := by simp [hs]
    have D := HD1.out hs
    have hS0 : 0 < S := D.S0
    have hS1 := D.S1
    have HDD := Lib.hid D
    have HS := Lib.hid hs
    have htn : ¬ hold total < 0 := by omega
    clear D HD1
    generalize hold total = t at *
    go_wp2_with fail
    have HR1 := Lib.hid ((World.rowIs_made w (.int .i64 0) n 3).alloc (.cells (madeCells #[.int .i64 0] n) 3))
    have hq1 := World.rowIs_made (w.alloc (.cells (madeCells #[.int .i64 0] n) 3)) (.int .i64 0) n 3
    rw [show (w.alloc (.cells (madeCells #[.int .i64 0] n) 3)).heap.size = w.heap.size + 1 from by simp] at hq1
    have HQ1 := Lib.hid hq1
    clear hq1 hmk HR0
    go_loopw [10, 12] (fun v10 v12 wr => ∃ k : Nat, k ≤ n ∧ v12 = .int .i64 k ∧ v10 = .int .i64 (Sh.left t S (fun i => wt (f i)) k) ∧
      wr.rowIs w.heap.size 3 n (fun i => .int .i64 (if i < k then Sh.q t S (fun i => wt (f i)) i else 0)) ∧ wr.rowIs (w.heap.size + 1) 3 n (fun i => .int .i64 (if i < k then Sh.rs t S (fun i => wt (f i)) i else 0)) ∧ Below w.heap.size w wr) (fun _ v12 _ => n - (intOf v12).toNat)
    case atStart => exact ⟨0, Nat.zero_le _, rfl, by rw [left_none], HR1.out.congr (fun i hi => by simp), HQ1.out.congr (fun i hi => by simp), below_alloc HB1.out _⟩
    case round =>
      clear HR1 HQ1
      obtain ⟨k, hk, rfl, rfl, hr, hq, hbb⟩ := hrel
      by_cases hlt : k < n
      · obtain ⟨bw, ow, rfl, hN0⟩ := HSL.out.at hlt
        have hN := hN0.below hbb
        have hbw : bw < w.heap.size := hN0.1
        have hmul := HDD.out.mul hlt
        have hlk := HDD.out.leftk (k := k) hk
        have hlk1 := HDD.out.leftk (k := k + 1) hlt
        have hq0 := HDD.out.q0 hlt
        have hq1 := HDD.out.q1 hlt
        have hr0 := HDD.out.rs0 k
        rw [left_succ] at hlk1
        have HSUC := Lib.hid (left_succ (t := t) (S := S) (W := fun i => wt (f i)) k)
        have eq1 : Sh.q t S (fun i => wt (f i)) k = t * wt (f k) / S := rfl
        have er1 : Sh.rs t S (fun i => wt (f i)) k = t * wt (f k) % S := rfl
        rw [eq1] at hq0 hq1 hlk1
        rw [er1] at hr0
        have HQ := Lib.hid eq1
        have HRS := Lib.hid er1
        have c1 := hN.2 k hlt
        have f1 := hr.frozen k
        have c2 := hr.cell hlt
        have f2 := hq.frozen k
        have c3 := hq.cell hlt
        have hne : ¬ (w.heap.size = w.heap.size + 1) := by omega
        have hbo : ¬ (bw = w.heap.size) := by omega
        have hbo1 : ¬ (bw = w.heap.size + 1) := by omega
        have hbo2 : ¬ (w.heap.size = bw) := by omega
        have HR := Lib.hid hr
        have HQR := Lib.hid hq
        have HB := Lib.hid hbb
        clear hr hq hbb hN hN0 eq1 er1
        go_wp2_with fail
        refine (RWeight_any _ _).mono ?_; rintro e w' ⟨rfl, rfl⟩
        go_wp2_with fail
        refine (RWeight_any _ _).mono ?_; rintro e w' ⟨rfl, rfl⟩
        go_wp2_with fail
        go_roundw
        case rel =>
          refine ⟨k + 1, hlt, by go_num, by rw [HSUC.out, HQ.out], ((HR.out.set k _).setOther (by simp) _).congr (fun j hj => ?_), ((HQR.out.setOther (by simp) _).set k _).congr (fun j hj => ?_), below_set (below_set HB.out (Nat.le_refl _) _) (by simp) _⟩
          · by_cases e : j = k
            · subst e; rw [if_pos rfl, if_pos (by omega), HQ.out]
            · rw [if_neg e]
              by_cases e2 : j < k
              · rw [if_pos e2, if_pos (by omega)]
              · rw [if_neg e2, if_neg (by omega)]
          · by_cases e : j = k
            · subst e; rw [if_pos rfl, if_pos (by omega), HRS.out]
            · rw [if_neg e]
              by_cases e2 : j < k
              · rw [if_pos e2, if_pos (by omega)]
              · rw [if_neg e2, if_neg (by omega)]
        case measure => simp [intOf]; omega
      · obtain rfl : k = n := by omega
        have hpos := HDD.out.pos
        obtain ⟨L, hL⟩ : ∃ L : Nat, Sh.left t S (fun i => wt (f i)) k = L := ⟨(Sh.left t S (fun i => wt (f i)) k).toNat, by have := HDD.out.left0.1; omega⟩
        have hLn : L < k := by have := HDD.out.left0.2; omega
        rw [hL]
        have HL := Lib.hid hL
        have HR := Lib.hid (hr.congr (g := fun i => .int .i64 (outC t S k (fun i => wt (f i)) 0 i)) (fun i hi => by rw [if_pos hi, outC_zero]))
        have HQR := Lib.hid (hq.congr (g := fun i => .int .i64 (restC k (Sh.rs t S (fun i => wt (f i))) 0 i)) (fun i hi => by rw [if_pos hi, restC_zero]))
        have HB := Lib.hid hbb
        clear hr hq hbb hL
        go_wp2_with fail
        go_loopw [10] (fun v10 wr => ∃ c g : Nat, g + c = L ∧ v10 = .int .i64 g ∧ wr.rowIs w.heap.size 3 k (fun i => .int .i64 (outC t S k (fun i => wt (f i)) c i)) ∧
          wr.rowIs (w.heap.size + 1) 3 k (fun i => .int .i64 (restC k (Sh.rs t S (fun i => wt (f i))) c i)) ∧ Below w.heap.size w wr) (fun v10 _ => (intOf v10).toNat)
        case atStart => exact ⟨0, L, rfl, rfl, HR.out, HQR.out, HB.out⟩
        case round =>
          clear HR HQR HB
          obtain ⟨c, g, hgc, rfl, hr, hq, hbb⟩ := hrel
          by_cases hg : 0 < g
          · have hgz : (0 : Int) < (g : Int) := by omega
            have HGC := Lib.hid hgc
            have HR := Lib.hid hr
            have HQR := Lib.hid hq
            have HB := Lib.hid hbb
            have hcL : c < L := by omega
            have hgL : g ≤ L := by omega
            clear hr hq hbb hgc
            go_wp2_with fail
            go_loopw [13, 14] (fun v13 v14 wr => ∃ b i : Nat, v13 = .int .i64 b ∧ v14 = .int .i64 i ∧ i ≤ k ∧ BestTo (restC k (Sh.rs t S (fun i => wt (f i))) c) i b ∧ wr.rowIs w.heap.size 3 k (fun i => .int .i64 (outC t S k (fun i => wt (f i)) c i)) ∧
              wr.rowIs (w.heap.size + 1) 3 k (fun i => .int .i64 (restC k (Sh.rs t S (fun i => wt (f i))) c i)) ∧ Below w.heap.size w wr) (fun _ v14 _ => k - (intOf v14).toNat)
            case atStart => exact ⟨0, 1, rfl, rfl, hpos, BestTo.start _, HR.out, HQR.out, HB.out⟩
            case round =>
              clear HR HQR HB
              obtain ⟨b, i, rfl, rfl, hik, hbest, hr, hq, hbb⟩ := hrel
              have hbi := hbest.lt
              by_cases hi : i < k
              · have iz : (i : Int) < (k : Int) := by omega
                have bz : (b : Int) < (k : Int) := by omega
                have c1 := hq.cell hi
                have c2 := hq.cell (i := b) (by omega)
                have HR := Lib.hid hr
                have HQR := Lib.hid hq
                have HB := Lib.hid hbb
                have HBE := Lib.hid hbest
                clear hr hq hbb hbest
                by_cases hv : restC k (Sh.rs t S (fun i => wt (f i))) c b < restC k (Sh.rs t S (fun i => wt (f i))) c i
                · have HV := Lib.hid hv
                  generalize restC k (Sh.rs t S (fun i => wt (f i))) c b = xb at c2 hv
                  generalize restC k (Sh.rs t S (fun i => wt (f i))) c i = xi at c1 hv
                  go_wp2_with fail
                  go_quiet (fail)
                  go_wp2_with fail
                  go_roundw
                  case rel => exact ⟨i, i + 1, rfl, by go_num, hi, HBE.out.up HV.out, HR.out.of_block rfl, HQR.out.of_block rfl, below_drawn HB.out _⟩
                  case measure => simp [intOf]; omega
                · have HV := Lib.hid hv
                  generalize restC k (Sh.rs t S (fun i => wt (f i))) c b = xb at c2 hv
                  generalize restC k (Sh.rs t S (fun i => wt (f i))) c i = xi at c1 hv
                  go_wp2_with fail
                  go_quiet (fail)
                  go_wp2_with fail
                  go_roundw
                  case rel => exact ⟨b, i + 1, rfl, by go_num, hi, HBE.out.stay (by have := HV.out; omega), HR.out.of_block rfl, HQR.out.of_block rfl, below_drawn HB.out _⟩
                  case measure => simp [intOf]; omega
              · obtain rfl : i = k := by omega
                have hrank := neediest (n := i) (c := c) (b := b) (r := Sh.rs t S (fun i => wt (f i))) (fun j _ => (HDD.out.rs0 j).1) (by omega) hbi hbest.all hbest.first
                have f1 := hr.frozen b
                have c1 := hr.cell hbi
                have f2 := hq.frozen b
                have c2 := hq.cell hbi
                have hqb0 := HDD.out.q0 hbi
                have hqb1 := HDD.out.q1 hbi
                have ob0 : 0 ≤ outC t S i (fun i => wt (f i)) c b := by unfold outC; split <;> omega
                have ob1 : outC t S i (fun i => wt (f i)) c b ≤ 1073741825 := by unfold outC; split <;> omega
                have hne : ¬ (w.heap.size = w.heap.size + 1) := by omega
                have HR := Lib.hid hr
                have HQR := Lib.hid hq
                have HB := Lib.hid hbb
                have HRK := Lib.hid hrank
                clear hr hq hbb hbest hrank
                go_wp2_with fail
                go_roundw
                case rel =>
                  refine ⟨c + 1, g - 1, by have := HGC.out; omega, by first | rfl | go_num | (congr 1; omega), ((HR.out.set b _).setOther (by simp) _).congr (fun j hj => ?_), ((HQR.out.setOther (by simp) _).set b _).congr (fun j hj => ?_), below_set (below_set HB.out (Nat.le_refl _) _) (by simp) _⟩
                  · rw [outC_step hbi HRK.out hj]
                    split <;> rfl
                  · rw [restC_step hbi HRK.out hj]
                    split <;> rfl
                case measure => simp [intOf]; omega
          · obtain rfl : g = 0 := by omega
            obtain rfl : c = L := by omega
            have HR := Lib.hid hr
            have HB := Lib.hid hbb
            clear hr hq hbb hgc
            go_wp2_with fail
            go_ret
            exact ⟨w.heap.size, rfl, Nat.le_refl _, HR.out.congr (fun i hi => by rw [HD.out, if_neg HS.out, outC_all HL.out]), HB.out⟩

theorem hold_neg2 (x : Int) : hold (-hold x) = -hold x := hold_id (by have := hold_bd x; omega) (by have := hold_bd x; omega)

set_option maxHeartbeats 4000000 in
theorem RDeal_any (total : Int) (ao : Option Addr) (cap n : Nat) (f : Nat → Int) (hn : n ≤ 1048576) (w : World) (hS : Sl w ao n f) :
    Calls Try.prog 33 #[.int .i64 total, .slice ao n cap] w (RowOut w n (deal total n f)) := by
  by_cases ht : 0 ≤ hold total
  · exact RDeal_pos total ht ao cap n f hn w hS
  · have hb := hold_bd total
    have HSL := Lib.hid hS
    have HC := Lib.hid (fun w' (hb : Below w.heap.size w w') => RWeights_any ao cap n f hn w' (hS.below hb))
    have HC2 := Lib.hid (fun w' (hb' : Below w.heap.size w w') => RDeal_pos (-hold total) (by rw [hold_neg2]; omega) ao cap n f hn w' (hS.below hb'))
    have hD : ∀ i, deal total n f i = if Sh.sm (fun i => wt (f i)) n = 0 then 0 else -deal (-hold total) n f i := fun i => by
      unfold deal
      by_cases hs : Sh.sm (fun i => wt (f i)) n = 0
      · rw [if_pos hs, if_pos hs]
      · rw [if_neg hs, if_neg hs, if_neg hs, if_neg ht, hold_neg2, if_pos (c := 0 ≤ -hold total) (by omega)]
    have hDB : ¬ Sh.sm (fun i => wt (f i)) n = 0 → ∀ i, i < n → 0 ≤ deal (-hold total) n f i ∧ deal (-hold total) n f i ≤ 1073741825 := fun hs i hi => by
      unfold deal; rw [if_neg hs, hold_neg2, if_pos (c := 0 ≤ -hold total) (by omega)]
      exact dealt_bd (deals_of _ n f (by omega) (by omega) hn hs) hi
    have HD := Lib.hid hD
    have HDB := Lib.hid hDB
    have hmk := run_make_row' (P := Try.prog) 25 3 (.int .i64 0) 8 Try.underlying25 int_info rfl .i64 .i64 n (by omega) (by omega)
    clear hS hD hDB
    go_enter Try.func33, Try.ntmps33
    go_wp2_with fail
    have hb1 : Below w.heap.size w (w.alloc (.cells (madeCells #[.int .i64 0] n) 3)) := (Below.refl _ w).alloc (Nat.le_refl _) _
    have HB1 := Lib.hid hb1
    have HR0 := Lib.hid (World.rowIs_made w (.int .i64 0) n 3)
    clear hb1
    refine (HC.out _ HB1.out).mono ?_; rintro e w' ⟨rfl, rfl⟩
    clear HC hmk
    generalize hSS : Sh.sm (fun i => wt (f i)) n = S at *
    clear hSS
    go_wp2_with fail
    refine (RHold_any _ _).mono ?_; rintro e w' ⟨rfl, rfl⟩
    by_cases hs : S = 0
    · have hs0 : (S == 0) = true := by simp [hs]
      have HS := Lib.hid hs
      clear hs
      go_wp2_with fail
      go_ret
      exact ⟨w.heap.size, rfl, Nat.le_refl _, HR0.out.congr (fun i hi => by rw [HD.out, if_pos HS.out]), HB1.out⟩
    · have hs0 : (S == 0) = false := by simp [hs]
      have HS := Lib.hid hs
      have htn : hold total < 0 := by omega
      clear hs ht
      go_wp2_with fail
      refine (HC2.out _ HB1.out).mono ?_
      rintro e w2 ⟨o2, rfl, ho2, hr2, hb2⟩
      have HR2 := Lib.hid hr2
      have ho3 : w.heap.size < o2 := by simp at ho2; omega
      have HR1 := Lib.hid (HR0.out.of_block (hb2.block _ (by simp)))
      have HB2 := Lib.hid (below_then HB1.out hb2)
      clear hr2 hb2 HC2 ho2
      go_wp2_with fail
      go_loopw [9] (fun v9 wr => ∃ k : Nat, k ≤ n ∧ v9 = .int .i64 k ∧ wr.rowIs w.heap.size 3 n (fun i => .int .i64 (if i < k then -deal (-hold total) n f i else 0)) ∧
        wr.rowIs o2 3 n (fun i => .int .i64 (deal (-hold total) n f i)) ∧ Below w.heap.size w wr) (fun v9 _ => n - (intOf v9).toNat)
      case atStart => exact ⟨0, Nat.zero_le _, rfl, HR1.out.congr (fun i hi => by simp), HR2.out, HB2.out⟩
      case round =>
        clear HR1 HR2 HB2
        obtain ⟨k, hk, rfl, hr, hq, hbb⟩ := hrel
        by_cases hlt : k < n
        · have fz := hr.frozen k
          have c6 := hr.cell hlt
          have c7 := hq.cell hlt
          have hdb := HDB.out HS.out k hlt
          have hne : ¬ (o2 = w.heap.size) := by omega
          have HR := Lib.hid hr
          have HQ := Lib.hid hq
          have HB := Lib.hid hbb
          clear hr hq hbb
          go_wp2_with fail
          go_roundw
          case rel =>
            refine ⟨k + 1, hlt, by go_num, (HR.out.set k _).congr (fun j hj => ?_), HQ.out.setOther (by simp; omega) _, below_set HB.out (Nat.le_refl _) _⟩
            by_cases e : j = k
            · subst e; rw [if_pos rfl, if_pos (by omega)]
            · rw [if_neg e]
              by_cases e2 : j < k
              · rw [if_pos e2, if_pos (by omega)]
              · rw [if_neg e2, if_neg (by omega)]
          case measure => simp [intOf]; omega
        · obtain rfl : k = n := by omega
          have HR := Lib.hid hr
          have HB := Lib.hid hbb
          clear hr hq hbb
          go_wp2_with fail
          go_ret
          exact ⟨w.heap.size, rfl, Nat.le_refl _, HR.out.congr (fun i hi => by rw [if_pos hi, HD.out, if_neg HS.out]), HB.out⟩

end Go.Proofs.Ytndpblgedpdjdaa
