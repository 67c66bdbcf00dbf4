/- The law FlexlineFills, walked. -/
import Derived.Test.YtndpblgedpdjdaaFlexLawC
namespace Go.Proofs.Ytndpblgedpdjdaa
open Go.RowKit
set_option linter.unusedSimpArgs false
set_option linter.unusedVariables false
attribute [local go_sem] cell?_ext frozen?_ext lt_size_ext

/-- An item that has no ends. -/
def It.loose (t : It) : It := ⟨t.base, 0, -1, t.margin, t.inner, t.grow, t.shrink⟩
theorem loose_fills (L : Nat → It) (n : Nat) (room : Int) (r : Nat) (hn : n ≤ 1048576) (hb : ∀ i, i < n → 0 ≤ (L i).base) (hg : 1000 ≤ Sh.sm (fun i => ((L i).loose).held.grow) n)
    (hgr : Fx.grows (fun i => ((L i).loose).held) n (hold room) = true) (hf : hold room - Sh.sm (fun i => ((L i).loose).held.margin) n - Sh.sm (fun i => ((L i).loose).held.base) n ≤ 1073741824)
    (hd : resD (fun i => (L i).loose) n room r) (ho : ∀ i, i < n → resF (fun i => (L i).loose) n room r i < 1073741824) :
    Sh.sm (fun i => ((L i).loose).held.margin) n + Sh.sm (resF (fun i => (L i).loose) n room r) n = hold room := by
  unfold resD at hd
  unfold resF at ho ⊢
  dsimp only at hd ho ⊢
  rw [hgr] at hd ho ⊢
  exact Fx.fills (L := fun i => ((L i).loose).held) hn (fun i _ => It.held_ok _) (fun i _ => rfl) (fun i _ => (by decide : hold (-1) = -1)) (fun i hi => (hold_nonneg _).2 (hb i hi)) hg hgr hf hd ho
theorem resF_bd (L : Nat → It) (n : Nat) (room : Int) (r : Nat) : ∀ i, i < n → -1073741824 ≤ resF L n room r i ∧ resF L n room r i ≤ 1073741824 := fun i hi =>
  (Fx.st_fits (L := fun i => (L i).held) (fun i _ => (L i).held_ok) r).out i hi

set_option maxRecDepth 20000 in
set_option maxHeartbeats 8000000 in
theorem Fills_walk (ao : Option Addr) (cap n : Nat) (L : Nat → It) (room : Int) (w : World) (hS : Its w ao n L) :
    Calls Try.prog 7 #[.slice ao n cap, .int .i64 room] w fun e w' => e = .returned (.bool true) ∧ Below w.heap.size w w' := by
  have HS := Lib.hid hS
  clear hS
  have hfew := few_any ao cap n
  by_cases hn : n ≤ 60
  · obtain ⟨i0, hi, hz0, hz1, hz2⟩ := info_parts item_info
    obtain ⟨r, hrn, hd⟩ := resD_some (fun i => (L i).loose) n room
    have hres := fun ao cap w hS => Res_any ao cap n (fun i => (L i).loose) room r (by omega) hd w hS
    have HFILL := Lib.hid (fun hb hg hgr hf ho => loose_fills L n room r (by omega) hb hg hgr hf hd ho)
    have HFB := Lib.hid (resF_bd (fun i => (L i).loose) n room r)
    generalize resF (fun i => (L i).loose) n room r = f at *
    have HRES := Lib.hid hres
    rw [decide_eq_true hn] at hfew
    have HFEW := Lib.hid hfew
    have hz : ((n : Int) == (n : Int)) = true := beq_self_eq_true _
    have hrb := hold_bd room
    have HMK : Hid (∀ k, k ≤ n → 0 ≤ Sh.sm (fun i => ((L i).loose).held.grow) k ∧ Sh.sm (fun i => ((L i).loose).held.grow) k ≤ 1073741824 * (k : Int)) := Lib.hid fun k hk =>
      ⟨Sh.sm_nonneg fun i _ => (It.held_ok _).grow.1, Sh.sm_le fun i _ => (It.held_ok _).grow.2⟩
    have HMM : Hid (∀ k, k ≤ n → -1073741824 * (k : Int) ≤ Sh.sm (fun i => ((L i).loose).held.margin) k ∧ Sh.sm (fun i => ((L i).loose).held.margin) k ≤ 1073741824 * (k : Int)) := Lib.hid fun k hk =>
      sm_bd _ 1073741824 k fun i _ => (It.held_ok _).margin
    have HMB : Hid (∀ k, k ≤ n → -1073741824 * (k : Int) ≤ Sh.sm (fun i => ((L i).loose).held.base) k ∧ Sh.sm (fun i => ((L i).loose).held.base) k ≤ 1073741824 * (k : Int)) := Lib.hid fun k hk =>
      sm_bd _ 1073741824 k fun i _ => (It.held_ok _).base
    have HFS : Hid (∀ k, k ≤ n → -1073741824 * (k : Int) ≤ Sh.sm f k ∧ Sh.sm f k ≤ 1073741824 * (k : Int)) := Lib.hid fun k hk => sm_bd _ 1073741824 k fun i hi => HFB.out i (by omega)
    have HG1 : Hid (∀ k, Sh.sm (fun i => ((L i).loose).held.grow) (k + 1) = Sh.sm (fun i => ((L i).loose).held.grow) k + ((L k).loose).held.grow) := Lib.hid fun k => rfl
    have HM1 : Hid (∀ k, Sh.sm (fun i => ((L i).loose).held.margin) (k + 1) = Sh.sm (fun i => ((L i).loose).held.margin) k + ((L k).loose).held.margin) := Lib.hid fun k => rfl
    have HB1 : Hid (∀ k, Sh.sm (fun i => ((L i).loose).held.base) (k + 1) = Sh.sm (fun i => ((L i).loose).held.base) k + ((L k).loose).held.base) := Lib.hid fun k => rfl
    have HF1 : Hid (∀ k, Sh.sm f (k + 1) = Sh.sm f k + f k) := Lib.hid fun k => rfl
    have HZ0 : Hid (Sh.sm (fun i => ((L i).loose).held.grow) 0 = 0 ∧ Sh.sm (fun i => ((L i).loose).held.margin) 0 = 0 ∧ Sh.sm (fun i => ((L i).loose).held.base) 0 = 0 ∧ Sh.sm f 0 = 0) := Lib.hid ⟨rfl, rfl, rfl, rfl⟩
    generalize Sh.sm (fun i => ((L i).loose).held.grow) = SG at *
    generalize Sh.sm (fun i => ((L i).loose).held.margin) = SM at *
    generalize Sh.sm (fun i => ((L i).loose).held.base) = SB at *
    generalize hSF : Sh.sm f = SF at *
    clear hfew hres hd hSF
    go_enter Try.func7, Try.ntmps7
    go_wp2_with fail
    refine (HFEW.out _).mono ?_; rintro e w' ⟨rfl, rfl⟩
    go_wp2_with fail
    go_loopw [5, 6, 7, 8] (fun v5 v6 v7 v8 wr => ∃ k : Nat, k ≤ n ∧ v8 = .int .i64 k ∧ v6 = .int .i64 (SG k) ∧ v7 = .int .i64 (SM k) ∧ (∀ i, i < k → 0 ≤ (L i).base) ∧ wr.ownsRow w.heap.size 34 7 v5 k (itCells (fun i => (L i).loose) k) ∧ Below w.heap.size w wr) (fun _ _ _ v8 _ => n - (intOf v8).toNat)
    case atStart => exact ⟨0, Nat.zero_le _, rfl, by rw [HZ0.out.1], by rw [HZ0.out.2.1], fun i hi => absurd hi (Nat.not_lt_zero _), World.ownsRow_nil _ _ _ _, Below.refl _ _⟩
    case round =>
      obtain ⟨k, hk, rfl, rfl, rfl, hps, ho, hb⟩ := hrel
      by_cases hlt : k < n
      · obtain ⟨b, o, rfl, hbl, hN⟩ := (HS.out.below hb).at hlt
        have c0 := hN.c0
        have c1 := hN.c1
        have c2 := hN.c2
        have c3 := hN.c3
        have c4 := hN.c4
        have c5 := hN.c5
        have c6 := hN.c6
        have ho2 := (ho.alloc (.cells #[.int .i64 (L k).base, .int .i64 0, .int .i64 (-1), .int .i64 (L k).margin, .int .i64 (L k).inner, .int .i64 (L k).grow, .int .i64 (L k).shrink] 34)).alloc (.cells #[.int .i64 (L k).base, .int .i64 0, .int .i64 (-1), .int .i64 (L k).margin, .int .i64 (L k).inner, .int .i64 (L k).grow, .int .i64 (L k).shrink] 34)
        have hb2 := below_alloc (below_alloc hb (.cells #[.int .i64 (L k).base, .int .i64 0, .int .i64 (-1), .int .i64 (L k).margin, .int .i64 (L k).inner, .int .i64 (L k).grow, .int .i64 (L k).shrink] 34)) (.cells #[.int .i64 (L k).base, .int .i64 0, .int .i64 (-1), .int .i64 (L k).margin, .int .i64 (L k).inner, .int .i64 (L k).grow, .int .i64 (L k).shrink] 34)
        have hnw := item_news wr (.cells #[.int .i64 (L k).base, .int .i64 0, .int .i64 (-1), .int .i64 (L k).margin, .int .i64 (L k).inner, .int .i64 (L k).grow, .int .i64 (L k).shrink] 34) (L k).loose 34
        have HO2 := Lib.hid ho2
        have HB2 := Lib.hid hb2
        have HB0 := Lib.hid (below_alloc hb (.cells #[.int .i64 (L k).base, .int .i64 0, .int .i64 (-1), .int .i64 (L k).margin, .int .i64 (L k).inner, .int .i64 (L k).grow, .int .i64 (L k).shrink] 34))
        have HNW := Lib.hid hnw
        have HPS := Lib.hid hps
        have g1 := HMK.out k hk
        have g2 := HMM.out k hk
        have hhd := fun w => RHeld_item (L k).loose w
        have m1 := (It.held_ok (L k).loose).grow
        have m2 := (It.held_ok (L k).loose).margin
        have HE1 := Lib.hid (HG1.out k)
        have HE2 := Lib.hid (HM1.out k)
        generalize SG k = sg at *
        generalize SM k = sm0 at *
        unfold It.val at hhd
        generalize ((L k).loose).held = hh at *
        clear hN ho hb ho2 hb2 hnw hps
        by_cases hneg : (L k).base < 0
        · have hd0 : decide ((L k).base < 0) = true := decide_eq_true hneg
          clear hhd
          go_wp2_with fail
          refine (known_any _).mono ?_; rintro e w9 ⟨rfl, hb9⟩
          have HB9 := Lib.hid (below_then HB0.out hb9)
          clear hb9
          go_wp2_with fail
          go_ret
          exact ⟨rfl, HB9.out⟩
        · have hd0 : decide ((L k).base < 0) = false := decide_eq_false hneg
          have HHD := Lib.hid hhd
          clear hhd
          go_wp2_with ((at_builtin; refine wpList_append_own_at _ rfl (.tmp 37) (.tmp 39) _ rfl w.heap.size 34 i0 (.agg #[.int .i64 0, .int .i64 0, .int .i64 0, .int .i64 0, .int .i64 0, .int .i64 0, .int .i64 0]) 7 56 Try.underlying22 hi hz0 hz1 hz2 rfl (by decide) _ _ _ rfl HO2.out ⟨wr.heap.size + 1, 0, none⟩ 1 1 (L k).loose.cells rfl rfl ?c1 ?c2 ?c3 ?c4 HB2.out.size ?_))
          case c1 => first | exact HNW.out | exact fun j u hj => hj
          case c2 => exact item_one _
          case c3 => unfold maxLen; omega
          case c4 => omega
          intro v' w3 hown3 hg3 _ _
          have hb3 : Below w.heap.size w w3 := HB2.out.grown hg3 HB2.out.size fun k hk => (HO2.out.lt k hk).1
          have hown3 : w3.ownsRow w.heap.size 34 7 v' (k + 1) (itCells (fun i => (L i).loose) (k + 1)) := hown3
          obtain ⟨ao1, cap1, rfl, hI⟩ := Its.of_own hown3
          have hof := of_any ao1 cap1 (k + 1) (fun i => (L i).loose) (by omega) w3 hI
          have HO3 := Lib.hid hown3
          have HB3 := Lib.hid hb3
          have hke : ((k + 1 : Nat) : Int) = (k : Int) + 1 := by omega
          clear hown3 hg3 hb3 hI c0 c1 c2 c3 c4 c5 c6 hbl
          go_wp2_with fail
          refine hof.mono ?_; rintro e w4 ⟨ao2, cap2, rfl, ho4, hb4⟩
          obtain ⟨ao2', cap2', he, hI⟩ := Its.of_own ho4
          cases he
          obtain ⟨b2, o2, rfl, hbl, hN⟩ := hI.at (Nat.lt_succ_self k)
          have c0 := hN.c0
          have c1 := hN.c1
          have c2 := hN.c2
          have c3 := hN.c3
          have c4 := hN.c4
          have c5 := hN.c5
          have c6 := hN.c6
          have HB4 := Lib.hid hb4
          have hhd := HHD.out
          clear hN hI ho4 hb4 hof
          go_wp2_with fail
          refine (hhd _).mono ?_; rintro e w5 ⟨rfl, hb5⟩
          have HB5 := Lib.hid (below_then HB4.out hb5)
          clear hb5 c0 c1 c2 c3 c4 c5 c6 hbl hhd
          go_wp2_with fail
          go_roundw
          case rel =>
            refine ⟨k + 1, hlt, by go_num, by rw [HE1.out], by rw [HE2.out], fun i hi => ?_, (own_then HO3.out HB5.out).alloc _, below_alloc (below_then HB3.out HB5.out) _⟩
            by_cases h : i = k
            · rw [h]; omega
            · exact HPS.out i (by omega)
          case measure => simp [intOf]; omega
      · obtain rfl : k = n := by omega
        obtain ⟨ao1, cap1, rfl, hI⟩ := Its.of_own ho
        have HI := Lib.hid hI
        have HB := Lib.hid hb
        have HPS := Lib.hid hps
        have g1 := HMK.out k hk
        have g2 := HMM.out k hk
        clear ho hb hI hps
        by_cases hsg : SG k < 1000
        · have hd0 : decide (SG k < 1000) = true := decide_eq_true hsg
          go_wp2_with fail
          refine (known_any _).mono ?_; rintro e w9 ⟨rfl, hb9⟩
          have HB9 := Lib.hid (below_then HB.out hb9)
          clear hb9
          go_wp2_with fail
          go_ret
          exact ⟨rfl, HB9.out⟩
        · have hd0 : decide (SG k < 1000) = false := decide_eq_false hsg
          have hof := of_any ao1 cap1 k (fun i => (L i).loose) (by omega) wr HI.out
          have hsg2 : 1000 ≤ SG k := by omega
          have HSG := Lib.hid hsg2
          clear hsg hsg2
          go_wp2_with fail
          refine hof.mono ?_; rintro e w4 ⟨ao2, cap2, rfl, ho4, hb4⟩
          obtain ⟨ao2', cap2', he, hI4⟩ := Its.of_own ho4
          cases he
          have hal := RAll_any ao2 cap2 k (fun i => (L i).loose) (by omega) w4 hI4
          have HB4 := Lib.hid hb4
          clear ho4 hb4 hof hI4
          go_wp2_with fail
          refine hal.mono ?_; rintro e w5 ⟨ao3, cap3, rfl, ho5, hb5⟩
          obtain ⟨ao3', cap3', he, hI5⟩ := Its.of_own ho5
          cases he
          have hgw := RGrows_any ao3 cap3 k (fun i => ((L i).loose).held) room (by omega) (fun i _ => It.held_ok _) w5 hI5
          have HB5 := Lib.hid (below_then HB4.out hb5)
          clear ho5 hb5 hal hI5
          cases hgr : Fx.grows (fun i => ((L i).loose).held) k (hold room) with
          | false =>
            rw [hgr] at hgw
            go_wp2_with fail
            refine hgw.mono ?_; rintro e w6 ⟨rfl, hb6⟩
            have HB6 := Lib.hid (below_then HB.out (below_then HB5.out hb6))
            clear hb6 hgw
            go_wp2_with fail
            refine (known_any _).mono ?_; rintro e w9 ⟨rfl, hb9⟩
            have HB9 := Lib.hid (below_then HB6.out hb9)
            clear hb9
            go_wp2_with fail
            go_ret
            exact ⟨rfl, HB9.out⟩
          | true =>
            rw [hgr] at hgw
            have HGR := Lib.hid hgr
            clear hgr
            go_wp2_with fail
            refine hgw.mono ?_; rintro e w6 ⟨rfl, hb6⟩
            have HB6 := Lib.hid (below_then HB5.out hb6)
            have HI6 := Lib.hid (HI.out.below HB6.out)
            clear hb6 hgw
            go_wp2_with fail
            refine (RHold_any _ _).mono ?_; rintro e w' ⟨rfl, rfl⟩
            go_wp2_with fail
            go_loop [11, 12] (fun v11 v12 => ∃ j : Nat, j ≤ k ∧ v12 = .int .i64 j ∧ v11 = .int .i64 (hold room - SM k - SB j)) (fun _ v12 => k - (intOf v12).toNat)
            case atStart => exact ⟨0, Nat.zero_le _, rfl, by rw [HZ0.out.2.2.1, Int.sub_zero]⟩
            case round =>
              obtain ⟨j, hj, rfl, rfl⟩ := hrel
              have g3 := HMB.out j hj
              by_cases hjk : j < k
              · obtain ⟨b, o, rfl, hbl, hN⟩ := HI6.out.at hjk
                have c0 : w6.cell? ⟨b, o + j * 7, none⟩ = some (.int .i64 (L j).base) := hN.c0
                have hho : ∀ w, Calls Try.prog 21 #[.int .i64 (L j).base] w fun e w' => e = .returned (.int .i64 ((L j).loose).held.base) ∧ w = w' := fun w => RHold_any (L j).base w
                have m3 := (It.held_ok (L j).loose).base
                have HE := Lib.hid (HB1.out j)
                generalize ((L j).loose).held.base = hb0 at *
                clear hN
                go_wp2_with fail
                refine (hho _).mono ?_; rintro e w' ⟨rfl, rfl⟩
                go_wp2_with fail
                go_round
                case rel => exact ⟨j + 1, hjk, by go_num, by rw [HE.out]; congr 1; omega⟩
                case measure => simp [intOf]; omega
              · obtain rfl : j = k := by omega
                by_cases hbig : 1073741824 < hold room - SM j - SB j
                · have hd1 : decide (1073741824 < hold room - SM j - SB j) = true := decide_eq_true hbig
                  go_wp2_with fail
                  refine (known_any _).mono ?_; rintro e w9 ⟨rfl, hb9⟩
                  have HB9 := Lib.hid (below_then (below_then HB.out HB6.out) hb9)
                  clear hb9
                  go_wp2_with fail
                  go_ret
                  exact ⟨rfl, HB9.out⟩
                · have hd1 : decide (1073741824 < hold room - SM j - SB j) = false := decide_eq_false hbig
                  have hres := HRES.out ao1 cap1 w6 HI6.out
                  go_wp2_with fail
                  refine hres.mono ?_; rintro e w7 ⟨o7, rfl, ho7, hr7, hb7⟩
                  have HR7 := Lib.hid hr7
                  have HB7 := Lib.hid (below_then HB.out (below_then HB6.out hb7))
                  clear hr7 hb7 hres
                  go_wp2_with fail
                  go_loop [15, 16] (fun v15 v16 => ∃ i : Nat, i ≤ j ∧ v16 = .int .i64 i ∧ v15 = .int .i64 (SM j + SF i) ∧ ∀ x, x < i → f x < 1073741824) (fun _ v16 => j - (intOf v16).toNat)
                  case atStart => exact ⟨0, Nat.zero_le _, rfl, by rw [HZ0.out.2.2.2, Int.add_zero], fun x hx => absurd hx (Nat.not_lt_zero _)⟩
                  case round =>
                    obtain ⟨i, hi, rfl, rfl, hfs⟩ := hrel
                    have g4 := HFS.out i hi
                    have HFSS := Lib.hid hfs
                    clear hfs
                    by_cases hij : i < j
                    · have d0 := HR7.out.cell hij
                      have m4 := HFB.out i hij
                      have HE := Lib.hid (HF1.out i)
                      have hfi : ∃ y, y = f i := ⟨_, rfl⟩
                      obtain ⟨y, hy⟩ := hfi
                      rw [← hy] at d0 m4
                      have HY := Lib.hid hy
                      clear hy
                      by_cases hbg : 1073741824 ≤ y
                      · have hd2 : decide (1073741824 ≤ y) = true := decide_eq_true hbg
                        go_wp2_with fail
                        refine (known_any _).mono ?_; rintro e w9 ⟨rfl, hb9⟩
                        have HB9 := Lib.hid (below_then HB7.out hb9)
                        clear hb9
                        go_wp2_with fail
                        go_ret
                        exact ⟨rfl, HB9.out⟩
                      · have hd2 : decide (1073741824 ≤ y) = false := decide_eq_false hbg
                        go_wp2_with fail
                        go_round
                        case rel =>
                          refine ⟨i + 1, hij, by go_num, by rw [HE.out, ← HY.out]; congr 1; omega, fun x hx => ?_⟩
                          by_cases h : x = i
                          · rw [h, ← HY.out]; omega
                          · exact HFSS.out x (by omega)
                        case measure => simp [intOf]; omega
                    · obtain rfl : i = j := by omega
                      have hfin := HFILL.out HPS.out HSG.out HGR.out (by omega) HFSS.out
                      have hho : ∀ w, Calls Try.prog 21 #[.int .i64 room] w fun e w' => e = .returned (.int .i64 (SM i + SF i)) ∧ w = w' := fun w => by rw [hfin]; exact RHold_any room w
                      have hself : ((SM i + SF i : Int) == SM i + SF i) = true := beq_self_eq_true _
                      clear hfin
                      generalize SM i + SF i = tot at *
                      go_wp2_with fail
                      refine (hho _).mono ?_; rintro e w' ⟨rfl, rfl⟩
                      go_wp2_with fail
                      refine (known_any _).mono ?_; rintro e w9 ⟨rfl, hb9⟩
                      have HB9 := Lib.hid (below_then HB7.out hb9)
                      clear hb9
                      go_wp2_with fail
                      go_ret
                      exact ⟨rfl, HB9.out⟩
  · rw [decide_eq_false hn] at hfew
    have HFEW := Lib.hid hfew
    clear hfew
    go_enter Try.func7, Try.ntmps7
    go_wp2_with fail
    refine (HFEW.out _).mono ?_; rintro e w' ⟨rfl, rfl⟩
    go_wp2_with fail
    refine (known_any _).mono ?_; rintro e w5 ⟨rfl, hb5⟩
    have HB5 := Lib.hid hb5
    clear hb5
    go_wp2_with fail
    go_ret
    exact ⟨rfl, HB5.out⟩

end Go.Proofs.Ytndpblgedpdjdaa
