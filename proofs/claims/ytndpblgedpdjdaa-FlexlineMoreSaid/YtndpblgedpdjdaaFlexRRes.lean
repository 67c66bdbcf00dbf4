/- The reference's Resolve, walked. -/
import Derived.Test.YtndpblgedpdjdaaFlexRows
import Derived.Test.YtndpblgedpdjdaaRDeal
namespace Go.Proofs.Ytndpblgedpdjdaa
open Go.RowKit
set_option linter.unusedSimpArgs false
set_option linter.unusedVariables false
attribute [local go_sem] cell?_ext frozen?_ext lt_size_ext

theorem bool_info : (Try.prog.info? 4).map (fun i => (i.zero, i.size, i.bytes)) = some (some (.bool false), 1, 1) := by kernel_rfl

/-- What a line's resolving hands back. -/
def ResOut (w : World) (n : Nat) (f : Nat → Int) (r : Nat) (e : Ending) (w' : World) : Prop :=
  ∃ o, e = .returned (.tuple #[.slice (some ⟨o, 0, none⟩) n n, .int .i64 r]) ∧ w.heap.size ≤ o ∧ w'.rowIs o 3 n (fun i => .int .i64 (f i)) ∧ Below w.heap.size w w'

set_option maxRecDepth 20000 in
set_option maxHeartbeats 8000000 in
theorem RResolve_any (ao : Option Addr) (cap n : Nat) (L : Nat → It) (room : Int) (g : Bool) (r : Nat) (hn : n ≤ 65536) (hg : g = Fx.grows (fun i => (L i).held) n (hold room))
    (hd : Fx.Done (fun i => (L i).held) g n (hold room) (Fx.free (fun i => (L i).held) (Fx.st0 (fun i => (L i).held) g) n (hold room)) r) (w : World) (hS : Its w ao n L) :
    Calls Try.prog 12 #[.slice ao n cap, .int .i64 room] w
      (ResOut w n (Fx.st (fun i => (L i).held) g n (hold room) (Fx.free (fun i => (L i).held) (Fx.st0 (fun i => (L i).held) g) n (hold room)) r).out r) := by
  have hL : ∀ i, i < n → (L i).held.Ok := fun i _ => (L i).held_ok
  have hL : ∀ i, i < n → ((fun i => (L i).held) i).Ok := hL
  have hall := RAll_any ao cap n L hn w hS
  generalize (fun i => (L i).held) = M at *
  clear hS
  have HL := Lib.hid hL
  have HD := Lib.hid hd
  have HG := Lib.hid hg
  have hmk1 := run_make_row' (P := Try.prog) 25 3 (.int .i64 0) 8 Try.underlying25 int_info rfl .i64 .i64 n (by omega) (by omega)
  have hmk2 := run_make_row' (P := Try.prog) 48 4 (.bool false) 1 Try.underlying48 bool_info rfl .i64 .i64 n (by omega) (by omega)
  clear hL hd hg
  go_enter Try.func12, Try.ntmps12
  go_wp2_with fail
  refine hall.mono ?_
  rintro e w1 ⟨ao1, cap1, rfl, ho1, hb1⟩
  obtain ⟨ao1', cap1', he, hI⟩ := Its.of_own ho1
  cases he
  have hfar : ∀ a, ao1 = some a → a.block < w1.heap.size := fun a e => (ho1.lt a.block (by rw [e]; rfl)).2
  have HFAR := Lib.hid hfar
  have HB1 := Lib.hid hb1
  have HI := Lib.hid hI
  clear hall ho1 hb1 hI hfar
  go_wp2_with fail
  refine (RGrows_any ao1 cap1 n M room hn HL.out w1 HI.out).mono ?_
  rintro e w2 ⟨rfl, hb2⟩
  rw [← HG.out]
  have hz12 := hb2.size
  have hr0 : FxRows w ((w2.alloc (.cells (madeCells #[.int .i64 0] n) 3)).alloc (.cells (madeCells #[.bool false] n) 4)) ao1 w2.heap.size (w2.heap.size + 1) n M (fun _ => 0) (fun _ => false) := by
    have h1 := below_alloc (below_alloc (Below.refl w2.heap.size w2) (.cells (madeCells #[.int .i64 0] n) 3)) (.cells (madeCells #[.bool false] n) 4)
    have hw1 := HB1.out.size
    refine ⟨(HI.out.below hb2).below h1, fun a e => ?_, fun a e => ?_, by omega, by omega, by omega, (World.rowIs_made w2 (.int .i64 0) n 3).alloc _, ?_, below_then (below_then HB1.out hb2) h1⟩
    · have := HFAR.out a e; omega
    · have := HFAR.out a e; omega
    · have := World.rowIs_made (w2.alloc (.cells (madeCells #[.int .i64 0] n) 3)) (.bool false) n 4
      simpa using this
  have HR0 := Lib.hid hr0
  clear hb2 hr0 hz12
  go_wp2_with fail
  generalize w2.heap.size = b1 at *
  go_loopw [10, 11] (fun v10 v11 wr => ∃ k : Nat, k ≤ n ∧ v11 = .int .i64 k ∧ v10 = .int .i64 ((Sh.opens k (Fx.st0 M g).fz).length : Nat) ∧
      FxRows w wr ao1 b1 (b1 + 1) n M (fun i => if i < k then (Fx.st0 M g).out i else 0) (fun i => if i < k then (Fx.st0 M g).fz i else false)) (fun _ v11 _ => n - (intOf v11).toNat)
  case atStart => exact ⟨0, Nat.zero_le _, rfl, rfl, HR0.out.congr (fun i hi => by simp) (fun i hi => by simp)⟩
  case round =>
    clear HR0
    obtain ⟨k, hk, rfl, rfl, hR⟩ := hrel
    by_cases hlt : k < n
    · obtain ⟨b, o, rfl, hbl, hN⟩ := hR.its.at hlt
      have c0 := hN.c0
      have c1 := hN.c1
      have c2 := hN.c2
      have c3 := hN.c3
      have c4 := hN.c4
      have c5 := hN.c5
      have c6 := hN.c6
      have HR := Lib.hid hR
      have hst := fun w => RStiff_any (M k) g w
      have hwi := fun w => RWish_any (M k) w
      have HE : Hid ((Fx.st0 M g).fz k = (M k).stiff g) := Lib.hid rfl
      have HE2 : Hid ((Fx.st0 M g).out k = if (M k).stiff g = true then (M k).wish else 0) := Lib.hid rfl
      have HOS : Hid (Sh.opens (k + 1) (Fx.st0 M g).fz = if (Fx.st0 M g).fz k = true then Sh.opens k (Fx.st0 M g).fz else Sh.opens k (Fx.st0 M g).fz ++ [k]) := Lib.hid (Sh.opens_succ k _)
      have hlen := Sh.opens_le k (Fx.st0 M g).fz
      generalize (Fx.st0 M g).fz = fz0 at *
      generalize (Fx.st0 M g).out = out0 at *
      generalize (M k).wish = wi at *
      cases hz : (M k).stiff g with
      | true =>
        rw [hz] at hst HE HE2
        have hR2 := HR.out
        unfold It.val at hst hwi
        clear hN hR hR2
        go_wp2_with fail
        refine (hst _).mono ?_; rintro e w3 ⟨rfl, hb3⟩
        have hR3 := HR.out.then_ hb3
        obtain ⟨b', o', e', hbl', hN⟩ := hR3.its.at hlt
        cases e'
        have d0 := hN.c0
        have d1 := hN.c1
        have d2 := hN.c2
        have d3 := hN.c3
        have d4 := hN.c4
        have d5 := hN.c5
        have d6 := hN.c6
        have HR3 := Lib.hid hR3
        clear hN hR3 hb3 c0 c1 c2 c3 c4 c5 c6 hbl
        go_wp2_with fail
        refine (hwi _).mono ?_; rintro e w4 ⟨rfl, hb4⟩
        have hR4 := HR3.out.then_ hb4
        have e1 := hR4.out.cell hlt
        have f1 := hR4.out.frozen k
        have e2 := hR4.fz.cell hlt
        have f2 := hR4.fz.frozen k
        have hne := hR4.ne
        have HR4 := Lib.hid hR4
        clear hR4 hb4
        go_wp2_with fail
        go_roundw
        case rel =>
          refine ⟨k + 1, hlt, by go_num, by rw [HOS.out, if_pos HE.out], ((HR4.out.setOut k wi).setFz k true).congr (fun i hi => ?_) (fun i hi => ?_)⟩
          · by_cases h : i = k
            · subst h; simp [HE2.out]
            · simp only [h, if_false]; by_cases h2 : i < k
              · rw [if_pos h2, if_pos (by omega)]
              · rw [if_neg h2, if_neg (by omega)]
          · by_cases h : i = k
            · subst h; simp [HE.out]
            · simp only [h, if_false]; by_cases h2 : i < k
              · rw [if_pos h2, if_pos (by omega)]
              · rw [if_neg h2, if_neg (by omega)]
        case measure => simp [intOf]; omega
      | false =>
        rw [hz] at hst HE HE2
        unfold It.val at hst hwi
        clear hN hR
        go_wp2_with fail
        refine (hst _).mono ?_; rintro e w3 ⟨rfl, hb3⟩
        have hR3 := HR.out.then_ hb3
        have HR3 := Lib.hid hR3
        clear hR3 hb3
        go_wp2_with fail
        go_roundw
        case rel =>
          refine ⟨k + 1, hlt, by go_num, by rw [HOS.out, if_neg (by rw [HE.out]; simp), List.length_append]; rfl, HR3.out.congr (fun i hi => ?_) (fun i hi => ?_)⟩
          · by_cases h : i = k
            · subst h; simp [HE2.out]
            · by_cases h2 : i < k
              · rw [if_pos h2, if_pos (by omega)]
              · rw [if_neg h2, if_neg (by omega)]
          · by_cases h : i = k
            · subst h; simp [HE.out]
            · by_cases h2 : i < k
              · rw [if_pos h2, if_pos (by omega)]
              · rw [if_neg h2, if_neg (by omega)]
        case measure => simp [intOf]; omega
    · obtain rfl : k = n := by omega
      have hR0 : FxRows w wr ao1 b1 (b1 + 1) k M (Fx.st0 M g).out (Fx.st0 M g).fz := hR.congr (fun i hi => by rw [if_pos hi]) (fun i hi => by rw [if_pos hi])
      have HR0 := Lib.hid hR0
      have HFT := Lib.hid (Fx.st_fits (g := g) (R := hold room) (first := Fx.free M (Fx.st0 M g) k (hold room)) HL.out 0)
      clear hR hR0
      go_wp2_with fail
      refine (RFree_any ao1 _ _ cap1 k k k M (Fx.st0 M g) room hn HL.out HFT.out wr HR0.out.its HR0.out.sl HR0.out.bls).mono ?_
      rintro e w' ⟨rfl, rfl⟩
      generalize hF : Fx.free M (Fx.st0 M g) k (hold room) = F at *
      go_wp2_with fail
      go_loopw [10, 13, 14, 16, 17, 18] (fun v10 v13 _ _ _ _ wr => ∃ q : Nat, q ≤ r ∧ v13 = .int .i64 q ∧ v10 = .int .i64 (Fx.lft (Fx.st M g k (hold room) F q) k : Nat) ∧
        FxRows w wr ao1 b1 (b1 + 1) k M (Fx.st M g k (hold room) F q).out (Fx.st M g k (hold room) F q).fz) (fun _ v13 _ _ _ _ _ => r - (intOf v13).toNat)
      case atStart => exact ⟨0, Nat.zero_le _, rfl, rfl, HR0.out⟩
      case round =>
        clear HR0 HFT
        obtain ⟨q, hq, rfl, rfl, hR⟩ := hrel
        have hrk : r ≤ k := by
          obtain ⟨r', h1, h2⟩ := Fx.done_exists M g k (hold room) F
          have := Fx.done_unique HD.out h2
          omega
        have HST : Hid (Fx.st M g k (hold room) F (q + 1) = Fx.step M g k (hold room) F (Fx.st M g k (hold room) F q)) := Lib.hid rfl
        have HFT := Lib.hid (Fx.st_fits (g := g) (R := hold room) (first := F) HL.out q)
        by_cases hlt : q < r
        · have hne := HD.out.before q hlt
          generalize Fx.st M g k (hold room) F q = S at *
          have hlk : Fx.lft S k ≤ k := Sh.opens_le k _
          have hlp : 0 < Fx.lft S k := by omega
          have HLF : Hid (Fx.lft S k = (Sh.opens k S.fz).length) := Lib.hid rfl
          generalize Fx.lft S k = c at *
          have hqk : q ≤ k := by omega
          have hc0 : decide ((0 : Int) < (c : Int)) = true := decide_eq_true (by omega)
          have hc1 : decide ((q : Int) ≤ (k : Int)) = true := decide_eq_true (by omega)
          have HR := Lib.hid hR
          have hlo := hR.out.lt
          have hlz := hR.fz.lt
          have hge := hR.below.size
          have hfr : k = 0 ∨ ∀ x, ao1 = some x → x.block < wr.heap.size := by
            by_cases h0 : k = 0
            · exact .inl h0
            · exact .inr fun x hx => hR.lt hx h0
          have hw0 := (World.rowIs_made wr (.int .i64 0) k 3)
          have hR1 := hR.alloc (.cells (madeCells #[.int .i64 0] k) 3)
          have HW0 := Lib.hid hw0
          have HR1 := Lib.hid hR1
          have HFR := Lib.hid hfr
          clear hR hne hw0 hR1 hfr
          go_wp2_with fail
          generalize wr.heap.size = bw at *
          have nw1 : bw ≠ b1 := by omega
          have nw2 : bw ≠ b1 + 1 := by omega
          have hgw : w.heap.size ≤ bw := by omega
          have HF0 : Hid (k = 0 ∨ ∀ y, ao1 = some y → y.block ≠ bw) := Lib.hid (HFR.out.imp id fun h y hy => by have := h y hy; omega)
          go_loopw [15] (fun v15 wq => ∃ j : Nat, j ≤ k ∧ v15 = .int .i64 j ∧ FxRows w wq ao1 b1 (b1 + 1) k M S.out S.fz ∧
            wq.rowIs bw 3 k (fun i => .int .i64 (if i < j then Fx.wF M g S i else 0))) (fun v15 _ => k - (intOf v15).toNat)
          case atStart => exact ⟨0, Nat.zero_le _, rfl, HR1.out, HW0.out.congr fun i hi => by simp⟩
          case round =>
            clear HR1 HW0
            obtain ⟨j, hj, rfl, hR, hW⟩ := hrel
            by_cases hjk : j < k
            · obtain ⟨b, o, rfl, hbl, hN⟩ := hR.its.at hjk
              have c0 := hN.c0
              have c1 := hN.c1
              have c2 := hN.c2
              have c3 := hN.c3
              have c4 := hN.c4
              have c5 := hN.c5
              have c6 := hN.c6
              have d0 := hR.fz.cell hjk
              have HR := Lib.hid hR
              have HW := Lib.hid hW
              have hwe := fun w => RWeight_item (M j) g w
              have HE : Hid (Fx.wF M g S j = if S.fz j = true then 0 else (M j).wei g) := Lib.hid rfl
              generalize (M j).wei g = we at *
              cases hz : S.fz j with
              | true =>
                rw [hz] at d0 HE
                clear hN hR hW
                go_wp2_with fail
                go_roundw
                case rel =>
                  refine ⟨j + 1, hjk, by go_num, HR.out, HW.out.congr fun i hi => ?_⟩
                  by_cases h : i = j
                  · subst h; simp [HE.out]
                  · by_cases h2 : i < j
                    · rw [if_pos h2, if_pos (by omega)]
                    · rw [if_neg h2, if_neg (by omega)]
                case measure => simp [intOf]; omega
              | false =>
                rw [hz] at d0 HE
                unfold It.val at hwe
                clear hN hR hW
                go_wp2_with fail
                refine (hwe _).mono ?_; rintro e w3 ⟨rfl, hb3⟩
                have hR3 := HR.out.then_ hb3
                have hW3 := HW.out.of_block (hb3.block bw HW.out.lt)
                have e1 := hW3.cell hjk
                have f1 := hW3.frozen j
                have HR3 := Lib.hid hR3
                have HW3 := Lib.hid hW3
                clear hR3 hW3 hb3 c0 c1 c2 c3 c4 c5 c6 hbl d0
                go_wp2_with fail
                go_roundw
                case rel =>
                  refine ⟨j + 1, hjk, by go_num, HR3.out.setFar (a := ⟨bw, j, none⟩) (Ne.symm nw1) (Ne.symm nw2) HF0.out hgw _, (HW3.out.set j _).congr fun i hi => ?_⟩
                  by_cases h : i = j
                  · subst h; simp [HE.out]
                  · simp only [h, if_false]; by_cases h2 : i < j
                    · rw [if_pos h2, if_pos (by omega)]
                    · rw [if_neg h2, if_neg (by omega)]
                case measure => simp [intOf]; omega
            · obtain rfl : j = k := by omega
              have hW' : wr.rowIs bw 3 j (fun i => .int .i64 (Fx.wF M g S i)) := hW.congr fun i hi => by rw [if_pos hi]
              have hfb := Fx.used_bd HL.out HFT.out (Nat.le_refl j)
              have hfr1 : -1152921504606846976 ≤ Fx.free M S j (hold room) ∧ Fx.free M S j (hold room) ≤ 1152921504606846976 := by
                have := hold_bd room
                unfold Fx.free; omega
              have HR := Lib.hid hR
              have HW := Lib.hid hW'
              have HSB : Hid (∀ i, i < j → -1073741824 ≤ Fx.share M g j (hold room) F S i ∧ Fx.share M g j (hold room) F S i ≤ 1073741824) := Lib.hid fun i hi => Fx.share_bd hi
              clear hR hW hW' hfb
              go_wp2_with fail
              refine (RFree_any ao1 _ _ cap1 j j j M S room hn HL.out HFT.out wr HR.out.its HR.out.sl HR.out.bls).mono ?_
              rintro e w' ⟨rfl, rfl⟩
              go_wp2_with fail
              refine (RDealt_any ao1 _ cap1 j j M S g F (Fx.free M S j (hold room)) hn HL.out hfr1.1 hfr1.2 wr HR.out.its HR.out.bls).mono ?_
              rintro e w4 ⟨rfl, hb4⟩
              have hR4 := HR.out.then_ hb4
              have hW4 := HW.out.of_block (hb4.block bw HW.out.lt)
              have HR4 := Lib.hid hR4
              have HW4 := Lib.hid hW4
              clear hR4 hW4 hb4
              go_wp2_with fail
              refine (RDeal_any _ _ j j _ (by omega) w4 (Sl.row HW4.out)).mono ?_
              rintro e w5 ⟨bs, rfl, hbs, hS5, hb5⟩
              have hR5 := HR4.out.then_ hb5
              have hS5 : w5.rowIs bs 3 j (fun i => .int .i64 (Fx.share M g j (hold room) F S i)) := hS5
              have hlo := HR4.out.out.lt
              have hlz := HR4.out.fz.lt
              have hls := hS5.lt
              have hge := HR4.out.below.size
              have hge5 := hR5.below.size
              have hfr : j = 0 ∨ ∀ x, ao1 = some x → x.block < w4.heap.size := by
                by_cases h0 : j = 0
                · exact .inl h0
                · exact .inr fun x hx => HR4.out.lt hx h0
              have hlt5 := hb5.size
              have HFS : Hid (∀ y, w4.heap.size ≤ y → j = 0 ∨ ∀ x, ao1 = some x → x.block ≠ y) := Lib.hid fun y hy => hfr.imp id fun h x hx => by have := h x hx; omega
              have hR6 := hR5.alloc (.cells (madeCells #[.int .i64 0] j) 3)
              have hS6 := hS5.of_block (((Below.refl _ w5).alloc (Nat.le_refl _) (.cells (madeCells #[.int .i64 0] j) 3)).block bs hls)
              have hB6 := (World.rowIs_made w5 (.int .i64 0) j 3)
              have HR6 := Lib.hid hR6
              have HS6 := Lib.hid hS6
              have HB6 := Lib.hid hB6
              clear hR5 hS5 hb5 hR6 hS6 hB6 hfr
              go_wp2_with fail
              generalize w5.heap.size = bb at *
              have nb1 : bb ≠ b1 := by omega
              have nb2 : bb ≠ b1 + 1 := by omega
              have nbs : bb ≠ bs := by omega
              have hgb : w.heap.size ≤ bb := by omega
              have HFB := Lib.hid (HFS.out bb (by omega))
              go_loopw [18, 19] (fun v18 v19 wq => ∃ i : Nat, i ≤ j ∧ v19 = .int .i64 i ∧ v18 = .int .i64 (Sh.sm (Fx.br M g j (hold room) F S) i) ∧
                FxRows w wq ao1 b1 (b1 + 1) j M S.out S.fz ∧
                wq.rowIs bs 3 j (fun i => .int .i64 (Fx.share M g j (hold room) F S i)) ∧
                wq.rowIs bb 3 j (fun x => .int .i64 (if x < i then Fx.br M g j (hold room) F S x else 0))) (fun _ v19 _ => j - (intOf v19).toNat)
              case atStart => exact ⟨0, Nat.zero_le _, rfl, rfl, HR6.out, HS6.out, HB6.out.congr fun i hi => by simp⟩
              case round =>
                clear HR6 HS6 HB6 HR4 HW4 HR HW
                obtain ⟨i, hi, rfl, rfl, hR, hS, hB⟩ := hrel
                by_cases hij : i < j
                · obtain ⟨b, o, rfl, hbl, hN⟩ := hR.its.at hij
                  have c0 := hN.c0
                  have c1 := hN.c1
                  have c2 := hN.c2
                  have c3 := hN.c3
                  have c4 := hN.c4
                  have c5 := hN.c5
                  have c6 := hN.c6
                  have d0 := hR.fz.cell hij
                  have d1 := hS.cell hij
                  have m1 := (HL.out i hij).base
                  have m2 := HSB.out i hij
                  have hB1 : -2147483648 * (i : Int) ≤ Sh.sm (Fx.br M g j (hold room) F S) i ∧ Sh.sm (Fx.br M g j (hold room) F S) i ≤ 2147483648 * (i : Int) := sm_bd _ 2147483648 i fun x hx => by
                    have := Fx.br_bd (g := g) (R := hold room) (first := F) (S := S) HL.out (i := x) (by omega)
                    omega
                  have m3 := Fx.len_bd (g := g) (R := hold room) (first := F) (S := S) HL.out hij
                  have HE : Hid (Sh.sm (Fx.br M g j (hold room) F S) (i + 1) = Sh.sm (Fx.br M g j (hold room) F S) i + Fx.br M g j (hold room) F S i) := Lib.hid rfl
                  have HE1 : Hid (Fx.br M g j (hold room) F S i = if S.fz i = true then 0 else Fx.len M g j (hold room) F S i - Fx.raw M g j (hold room) F S i) := Lib.hid rfl
                  have HE2 : Hid (Fx.raw M g j (hold room) F S i = hold ((M i).base + Fx.share M g j (hold room) F S i)) := Lib.hid rfl
                  have hcl : ∀ w, Calls Try.prog 18 #[(M i).val, .int .i64 (Fx.raw M g j (hold room) F S i)] w fun e w' => e = .returned (.int .i64 (Fx.len M g j (hold room) F S i)) ∧ Below w.heap.size w w' := fun w => RClamp_any (M i) _ w
                  have HR := Lib.hid hR
                  have HS := Lib.hid hS
                  have HB := Lib.hid hB
                  clear hN hR hS hB
                  generalize hsm : Sh.sm (Fx.br M g j (hold room) F S) i = sm0 at *
                  have HSM : Hid (Sh.sm (Fx.br M g j (hold room) F S) i = sm0) := Lib.hid hsm
                  clear hsm
                  cases hz : S.fz i with
                  | true =>
                    rw [hz] at d0 HE1
                    clear hcl
                    go_wp2_with fail
                    go_roundw
                    case rel =>
                      refine ⟨i + 1, hij, by go_num, by rw [HE.out, HE1.out]; simp, HR.out, HS.out, HB.out.congr fun x hx => ?_⟩
                      by_cases h : x = i
                      · subst h; simp [HE1.out]
                      · by_cases h2 : x < i
                        · rw [if_pos h2, if_pos (by omega)]
                        · rw [if_neg h2, if_neg (by omega)]
                    case measure => simp [intOf]; omega
                  | false =>
                    rw [hz] at d0 HE1
                    have m4 := Fx.raw_bd (L := M) (g := g) (n := j) (R := hold room) (first := F) (S := S) i
                    generalize Fx.raw M g j (hold room) F S i = ra at *
                    generalize Fx.len M g j (hold room) F S i = le at *
                    generalize hsh : Fx.share M g j (hold room) F S i = sh at *
                    unfold It.val at hcl
                    clear hsh
                    have hho : ∀ w, Calls Try.prog 21 #[.int .i64 ((M i).base + sh)] w fun e w' => e = .returned (.int .i64 ra) ∧ w = w' := fun w => by
                      have := RHold_any ((M i).base + sh) w
                      rw [← HE2.out] at this; exact this
                    go_wp2_with fail
                    go_quiet ((go_at_call 21; exact quiet_left (hho _)))
                    go_wp2_with fail
                    refine (hcl _).mono ?_; rintro e w7 ⟨rfl, hb7⟩
                    have hb7 := below_then (below_drawn (Below.refl wr.heap.size wr) _) hb7
                    have hR7 := HR.out.then_ hb7
                    have hS7 := HS.out.of_block (hb7.block bs HS.out.lt)
                    have hB7 := HB.out.of_block (hb7.block bb HB.out.lt)
                    have e1 := hB7.cell hij
                    have f1 := hB7.frozen i
                    have HR7 := Lib.hid hR7
                    have HS7 := Lib.hid hS7
                    have HB7 := Lib.hid hB7
                    clear hR7 hS7 hB7 hb7 c0 c1 c2 c3 c4 c5 c6 hbl d0 d1 hcl hho
                    go_wp2_with fail
                    go_roundw
                    case rel =>
                      refine ⟨i + 1, hij, by go_num, by rw [HE.out, HE1.out]; simp, HR7.out.setFar (a := ⟨bb, i, none⟩) (Ne.symm nb1) (Ne.symm nb2) HFB.out hgb _, HS7.out.setOther (a := ⟨bb, i, none⟩) (Ne.symm nbs) _, (HB7.out.set i _).congr fun x hx => ?_⟩
                      by_cases h : x = i
                      · subst h; simp [HE1.out]
                      · simp only [h, if_false]; by_cases h2 : x < i
                        · rw [if_pos h2, if_pos (by omega)]
                        · rw [if_neg h2, if_neg (by omega)]
                    case measure => simp [intOf]; omega
                · obtain rfl : i = j := by omega
                  have hB' : wr.rowIs bb 3 i (fun x => .int .i64 (Fx.br M g i (hold room) F S x)) := hB.congr fun x hx => by rw [if_pos hx]
                  have ns1 : bs ≠ b1 := by omega
                  have ns2 : bs ≠ b1 + 1 := by omega
                  have HSO : Hid (∀ x, (Fx.step M g i (hold room) F S).out x = if S.fz x = false ∧ Fx.frz (Fx.br M g i (hold room) F S x) (Fx.brs M g i (hold room) F S) = true then Fx.len M g i (hold room) F S x else S.out x) := Lib.hid fun x => rfl
                  have HSZ : Hid (∀ x, (Fx.step M g i (hold room) F S).fz x = (S.fz x || Fx.frz (Fx.br M g i (hold room) F S x) (Fx.brs M g i (hold room) F S))) := Lib.hid fun x => rfl
                  have HLE : Hid (∀ x, Fx.len M g i (hold room) F S x = (M x).clamp (hold ((M x).base + Fx.share M g i (hold room) F S x))) := Lib.hid fun x => rfl
                  have hsb : Sh.sm (Fx.br M g i (hold room) F S) i = Fx.brs M g i (hold room) F S := rfl
                  have hsb2 : -2147483648 * (i : Int) ≤ Sh.sm (Fx.br M g i (hold room) F S) i ∧ Sh.sm (Fx.br M g i (hold room) F S) i ≤ 2147483648 * (i : Int) := sm_bd _ 2147483648 i fun x hx => by
                    have := Fx.br_bd (g := g) (R := hold room) (first := F) (S := S) HL.out (i := x) (by omega)
                    omega
                  rw [hsb] at *
                  have HR := Lib.hid hR
                  have HS := Lib.hid hS
                  have HB := Lib.hid hB'
                  have HBB : Hid (∀ x, x < i → -2147483648 ≤ Fx.br M g i (hold room) F S x ∧ Fx.br M g i (hold room) F S x ≤ 2147483648) := Lib.hid fun x hx => Fx.br_bd HL.out hx
                  have HLB : Hid (∀ x, x < i → -1073741824 ≤ Fx.len M g i (hold room) F S x ∧ Fx.len M g i (hold room) F S x ≤ 1073741824) := Lib.hid fun x hx => Fx.len_bd HL.out hx
                  clear hR hS hB hB' hsb
                  generalize Fx.step M g i (hold room) F S = S' at *
                  generalize Fx.br M g i (hold room) F S = bf at *
                  generalize Fx.brs M g i (hold room) F S = sb at *
                  generalize Fx.len M g i (hold room) F S = lf at *
                  generalize Fx.share M g i (hold room) F S = sf at *
                  go_wp2_with fail
                  go_loopw [10, 21] (fun v10 v21 wq => ∃ y : Nat, y ≤ i ∧ v21 = .int .i64 y ∧ v10 = .int .i64 ((c : Int) + ((Sh.opens y S'.fz).length : Int) - ((Sh.opens y S.fz).length : Int)) ∧
                    FxRows w wq ao1 b1 (b1 + 1) i M (fun x => if x < y then S'.out x else S.out x) (fun x => if x < y then S'.fz x else S.fz x) ∧
                    wq.rowIs bs 3 i (fun x => .int .i64 (sf x)) ∧ wq.rowIs bb 3 i (fun x => .int .i64 (bf x))) (fun _ v21 _ => i - (intOf v21).toNat)
                  case atStart => exact ⟨0, Nat.zero_le _, rfl, by show _ = Value.int .i64 ((c : Int) + 0 - 0); rw [Int.add_zero, Int.sub_zero], HR.out.congr (fun x hx => by simp) (fun x hx => by simp), HS.out, HB.out⟩
                  case round =>
                    clear HR HS HB
                    obtain ⟨y, hy, rfl, rfl, hR, hS, hB⟩ := hrel
                    by_cases hyi : y < i
                    · obtain ⟨b, o, rfl, hbl, hN⟩ := hR.its.at hyi
                      have c0 := hN.c0
                      have c1 := hN.c1
                      have c2 := hN.c2
                      have c3 := hN.c3
                      have c4 := hN.c4
                      have c5 := hN.c5
                      have c6 := hN.c6
                      have d0 := hR.fz.cell hyi
                      rw [if_neg (Nat.lt_irrefl y)] at d0
                      have d1 := hS.cell hyi
                      have d2 := hB.cell hyi
                      have m1 := (HL.out y hyi).base
                      have m2 := HSB.out y hyi
                      have m3 := HBB.out y hyi
                      have m4 := HLB.out y hyi
                      have HZY := Lib.hid (HSZ.out y)
                      have HOY := Lib.hid (HSO.out y)
                      have HL1 := Lib.hid (Sh.opens_succ y S'.fz)
                      have HL2 := Lib.hid (Sh.opens_succ y S.fz)
                      have k1 := Sh.opens_le y S'.fz
                      have k2 := Sh.opens_le y S.fz
                      generalize hp1 : (Sh.opens y S'.fz).length = p1 at *
                      generalize hp2 : (Sh.opens y S.fz).length = p2 at *
                      have HP1 := Lib.hid hp1
                      have HP2 := Lib.hid hp2
                      have HR := Lib.hid hR
                      have HS := Lib.hid hS
                      have HB := Lib.hid hB
                      have hcl : ∀ w, Calls Try.prog 18 #[(M y).val, .int .i64 (hold ((M y).base + sf y))] w fun e w' => e = .returned (.int .i64 (lf y)) ∧ Below w.heap.size w w' := fun w => by
                        have := RClamp_any (M y) (hold ((M y).base + sf y)) w
                        rw [← HLE.out] at this; exact this
                      have hho : ∀ w, Calls Try.prog 21 #[.int .i64 ((M y).base + sf y)] w fun e w' => e = .returned (.int .i64 (hold ((M y).base + sf y))) ∧ w = w' := fun w => RHold_any _ w
                      have m5 := hold_bd ((M y).base + sf y)
                      generalize hold ((M y).base + sf y) = ra at *
                      have HEQ : Hid (∀ x, x ≠ y → ((if x < y then S'.out x else S.out x) = if x < y + 1 then S'.out x else S.out x) ∧ ((if x < y then S'.fz x else S.fz x) = if x < y + 1 then S'.fz x else S.fz x)) := Lib.hid fun x hx => by
                        by_cases h2 : x < y
                        · rw [if_pos h2, if_pos (by omega), if_pos h2, if_pos (by omega)]; exact ⟨rfl, rfl⟩
                        · rw [if_neg h2, if_neg (by omega), if_neg h2, if_neg (by omega)]; exact ⟨rfl, rfl⟩
                      clear hN hR hS hB hp1 hp2
                      cases hz : S.fz y with
                      | true =>
                        rw [hz] at d0 HZY HOY HL2
                        rw [Bool.true_or] at HZY
                        rw [HZY.out] at HL1
                        have HL1 := Lib.hid HL1.out
                        clear hcl hho
                        go_wp2_with fail
                        go_roundw
                        case rel =>
                          refine ⟨y + 1, hyi, by go_num, ?_, HR.out.congr (fun x hx => ?_) (fun x hx => ?_), HS.out, HB.out⟩
                          · rw [HL1.out, HL2.out, if_pos rfl, if_pos rfl, HP1.out, HP2.out]
                          · by_cases h : x = y
                            · subst h; rw [if_neg (Nat.lt_irrefl x), if_pos (Nat.lt_succ_self x), HOY.out]; simp
                            · exact (HEQ.out x h).1
                          · by_cases h : x = y
                            · subst h; rw [if_neg (Nat.lt_irrefl x), if_pos (Nat.lt_succ_self x), HZY.out, hz]
                            · exact (HEQ.out x h).2
                        case measure => simp [intOf]; omega
                      | false =>
                        rw [hz] at d0 HZY HOY HL2
                        rw [Bool.false_or] at HZY
                        unfold It.val at hcl
                        by_cases hs : 0 < sb
                        · have g1 : (sb == 0) = false := beq_false_of_ne (by omega)
                          have g2 : decide (0 < sb) = true := decide_eq_true hs
                          have g3 : decide (sb < 0) = false := decide_eq_false (by omega)
                          by_cases hb : 0 < bf y
                          · have HF : Hid (Fx.frz (bf y) sb = true) := Lib.hid (by unfold Fx.frz; rw [if_pos hs]; exact decide_eq_true hb)
                            rw [HF.out] at HZY HOY
                            rw [HZY.out] at HL1
                            have HL1 := Lib.hid HL1.out
                            have e1 := HR.out.out.cell hyi
                            have f1 := HR.out.out.frozen y
                            have e2 := HR.out.fz.cell hyi
                            have f2 := HR.out.fz.frozen y
                            have hne := HR.out.ne
                            have l1 := HS.out.lt
                            have l2 := HR.out.out.lt
                            have l3 := HR.out.fz.lt
                            have g4 : decide (0 < bf y) = true := decide_eq_true hb
                            go_wp2_with fail
                            refine wp_region_ext_tail 19 (by kernel_rfl) (by kernel_rfl) ?_
                            simp only [List.take_succ_cons, List.take_zero, List.drop_succ_cons, List.drop_zero]
                            repeat (go_big_quiet_step ((first | (go_at_call 21; exact quiet_ext_same (hho _)) | (go_at_call 18; exact quiet_ext (hcl _)))))
                            refine wpQuiet_nil ?_
                            rintro _ ⟨u, rfl⟩
                            clear hcl hho
                            go_wp2_with fail
                            go_roundw
                            case rel =>
                              have hbx := below_ext wr u
                              refine ⟨y + 1, hyi, by go_num, ?_, (((HR.out.then_ hbx).setOut y (lf y)).setFz y true).congr (fun x hx => ?_) (fun x hx => ?_), ((HS.out.of_block (hbx.block bs HS.out.lt)).setOther (a := ⟨b1, y, none⟩) ns1 _).setOther (a := ⟨b1 + 1, y, none⟩) ns2 _, ((HB.out.of_block (hbx.block bb HB.out.lt)).setOther (a := ⟨b1, y, none⟩) nb1 _).setOther (a := ⟨b1 + 1, y, none⟩) nb2 _⟩
                              · rw [HL1.out, HL2.out, if_pos trivial, if_neg (by simp), List.length_append, HP1.out, HP2.out]; exact congrArg _ (by simp only [List.length_singleton]; omega)
                              · by_cases h : x = y
                                · subst h; rw [if_pos rfl, if_pos (Nat.lt_succ_self x), HOY.out]; simp
                                · rw [if_neg h]; exact (HEQ.out x h).1
                              · by_cases h : x = y
                                · subst h; rw [if_pos rfl, if_pos (Nat.lt_succ_self x), HZY.out]
                                · rw [if_neg h]; exact (HEQ.out x h).2
                            case measure => simp [intOf]; omega
                          · have HF : Hid (Fx.frz (bf y) sb = false) := Lib.hid (by unfold Fx.frz; rw [if_pos hs]; exact decide_eq_false hb)
                            rw [HF.out] at HZY HOY
                            rw [HZY.out] at HL1
                            have HL1 := Lib.hid HL1.out
                            have g4 : decide (0 < bf y) = false := decide_eq_false hb
                            clear hcl hho
                            go_wp2_with fail
                            go_roundw
                            case rel =>
                              refine ⟨y + 1, hyi, by go_num, ?_, HR.out.congr (fun x hx => ?_) (fun x hx => ?_), HS.out, HB.out⟩
                              · rw [HL1.out, HL2.out, if_neg (by simp), if_neg (by simp), List.length_append, List.length_append, HP1.out, HP2.out]; exact congrArg _ (by simp only [List.length_singleton]; omega)
                              · by_cases h : x = y
                                · subst h; rw [if_neg (Nat.lt_irrefl x), if_pos (Nat.lt_succ_self x), HOY.out]; simp
                                · exact (HEQ.out x h).1
                              · by_cases h : x = y
                                · subst h; rw [if_neg (Nat.lt_irrefl x), if_pos (Nat.lt_succ_self x), HZY.out, hz]
                                · exact (HEQ.out x h).2
                            case measure => simp [intOf]; omega
                        · by_cases hs2 : sb < 0
                          · have g1 : (sb == 0) = false := beq_false_of_ne (by omega)
                            have g2 : decide (0 < sb) = false := decide_eq_false hs
                            have g3 : decide (sb < 0) = true := decide_eq_true hs2
                            by_cases hb : bf y < 0
                            · have HF : Hid (Fx.frz (bf y) sb = true) := Lib.hid (by unfold Fx.frz; rw [if_neg hs, if_pos hs2]; exact decide_eq_true hb)
                              rw [HF.out] at HZY HOY
                              rw [HZY.out] at HL1
                              have HL1 := Lib.hid HL1.out
                              have e1 := HR.out.out.cell hyi
                              have f1 := HR.out.out.frozen y
                              have e2 := HR.out.fz.cell hyi
                              have f2 := HR.out.fz.frozen y
                              have hne := HR.out.ne
                              have l1 := HS.out.lt
                              have l2 := HR.out.out.lt
                              have l3 := HR.out.fz.lt
                              have g4 : decide (bf y < 0) = true := decide_eq_true hb
                              go_wp2_with fail
                              refine wp_region_ext_tail 19 (by kernel_rfl) (by kernel_rfl) ?_
                              simp only [List.take_succ_cons, List.take_zero, List.drop_succ_cons, List.drop_zero]
                              repeat (go_big_quiet_step ((first | (go_at_call 21; exact quiet_ext_same (hho _)) | (go_at_call 18; exact quiet_ext (hcl _)))))
                              refine wpQuiet_nil ?_
                              rintro _ ⟨u, rfl⟩
                              clear hcl hho
                              go_wp2_with fail
                              go_roundw
                              case rel =>
                                have hbx := below_ext wr u
                                refine ⟨y + 1, hyi, by go_num, ?_, (((HR.out.then_ hbx).setOut y (lf y)).setFz y true).congr (fun x hx => ?_) (fun x hx => ?_), ((HS.out.of_block (hbx.block bs HS.out.lt)).setOther (a := ⟨b1, y, none⟩) ns1 _).setOther (a := ⟨b1 + 1, y, none⟩) ns2 _, ((HB.out.of_block (hbx.block bb HB.out.lt)).setOther (a := ⟨b1, y, none⟩) nb1 _).setOther (a := ⟨b1 + 1, y, none⟩) nb2 _⟩
                                · rw [HL1.out, HL2.out, if_pos trivial, if_neg (by simp), List.length_append, HP1.out, HP2.out]; exact congrArg _ (by simp only [List.length_singleton]; omega)
                                · by_cases h : x = y
                                  · subst h; rw [if_pos rfl, if_pos (Nat.lt_succ_self x), HOY.out]; simp
                                  · rw [if_neg h]; exact (HEQ.out x h).1
                                · by_cases h : x = y
                                  · subst h; rw [if_pos rfl, if_pos (Nat.lt_succ_self x), HZY.out]
                                  · rw [if_neg h]; exact (HEQ.out x h).2
                              case measure => simp [intOf]; omega
                            · have HF : Hid (Fx.frz (bf y) sb = false) := Lib.hid (by unfold Fx.frz; rw [if_neg hs, if_pos hs2]; exact decide_eq_false hb)
                              rw [HF.out] at HZY HOY
                              rw [HZY.out] at HL1
                              have HL1 := Lib.hid HL1.out
                              have g4 : decide (bf y < 0) = false := decide_eq_false hb
                              clear hcl hho
                              go_wp2_with fail
                              go_roundw
                              case rel =>
                                refine ⟨y + 1, hyi, by go_num, ?_, HR.out.congr (fun x hx => ?_) (fun x hx => ?_), HS.out, HB.out⟩
                                · rw [HL1.out, HL2.out, if_neg (by simp), if_neg (by simp), List.length_append, List.length_append, HP1.out, HP2.out]; exact congrArg _ (by simp only [List.length_singleton]; omega)
                                · by_cases h : x = y
                                  · subst h; rw [if_neg (Nat.lt_irrefl x), if_pos (Nat.lt_succ_self x), HOY.out]; simp
                                  · exact (HEQ.out x h).1
                                · by_cases h : x = y
                                  · subst h; rw [if_neg (Nat.lt_irrefl x), if_pos (Nat.lt_succ_self x), HZY.out, hz]
                                  · exact (HEQ.out x h).2
                              case measure => simp [intOf]; omega
                          · have g1 : (sb == 0) = true := by rw [show sb = 0 by omega]; rfl
                            have HF : Hid (Fx.frz (bf y) sb = true) := Lib.hid (by unfold Fx.frz; rw [if_neg hs, if_neg hs2])
                            rw [HF.out] at HZY HOY
                            rw [HZY.out] at HL1
                            have HL1 := Lib.hid HL1.out
                            have e1 := HR.out.out.cell hyi
                            have f1 := HR.out.out.frozen y
                            have e2 := HR.out.fz.cell hyi
                            have f2 := HR.out.fz.frozen y
                            have hne := HR.out.ne
                            have l1 := HS.out.lt
                            have l2 := HR.out.out.lt
                            have l3 := HR.out.fz.lt
                            go_wp2_with fail
                            refine wp_region_ext_tail 19 (by kernel_rfl) (by kernel_rfl) ?_
                            simp only [List.take_succ_cons, List.take_zero, List.drop_succ_cons, List.drop_zero]
                            repeat (go_big_quiet_step ((first | (go_at_call 21; exact quiet_ext_same (hho _)) | (go_at_call 18; exact quiet_ext (hcl _)))))
                            refine wpQuiet_nil ?_
                            rintro _ ⟨u, rfl⟩
                            clear hcl hho
                            go_wp2_with fail
                            go_roundw
                            case rel =>
                              have hbx := below_ext wr u
                              refine ⟨y + 1, hyi, by go_num, ?_, (((HR.out.then_ hbx).setOut y (lf y)).setFz y true).congr (fun x hx => ?_) (fun x hx => ?_), ((HS.out.of_block (hbx.block bs HS.out.lt)).setOther (a := ⟨b1, y, none⟩) ns1 _).setOther (a := ⟨b1 + 1, y, none⟩) ns2 _, ((HB.out.of_block (hbx.block bb HB.out.lt)).setOther (a := ⟨b1, y, none⟩) nb1 _).setOther (a := ⟨b1 + 1, y, none⟩) nb2 _⟩
                              · rw [HL1.out, HL2.out, if_pos trivial, if_neg (by simp), List.length_append, HP1.out, HP2.out]; exact congrArg _ (by simp only [List.length_singleton]; omega)
                              · by_cases h : x = y
                                · subst h; rw [if_pos rfl, if_pos (Nat.lt_succ_self x), HOY.out]; simp
                                · rw [if_neg h]; exact (HEQ.out x h).1
                              · by_cases h : x = y
                                · subst h; rw [if_pos rfl, if_pos (Nat.lt_succ_self x), HZY.out]
                                · rw [if_neg h]; exact (HEQ.out x h).2
                            case measure => simp [intOf]; omega
                    · obtain rfl : y = i := by omega
                      have hR' := hR.congr (out' := S'.out) (fz' := S'.fz) (fun x hx => by rw [if_pos hx]) (fun x hx => by rw [if_pos hx])
                      have HR := Lib.hid hR'
                      clear hR hR' hS hB
                      have HCE : Hid (((c : Int) + ((Sh.opens y S'.fz).length : Int) - ((Sh.opens y S.fz).length : Int)) = ((Fx.lft S' y : Nat) : Int)) := Lib.hid (by
                        have := HLF.out
                        show _ = (((Sh.opens y S'.fz).length : Nat) : Int)
                        omega)
                      generalize ((c : Int) + ((Sh.opens y S'.fz).length : Int) - ((Sh.opens y S.fz).length : Int)) = cc at *
                      go_wp2_with fail
                      go_roundw
                      case rel =>
                        refine ⟨q + 1, by omega, by go_num, ?_, ?_⟩
                        · rw [HST.out, HCE.out]
                        · rw [HST.out]; exact HR.out
                      case measure => simp [intOf]; omega
        · obtain rfl : q = r := by omega
          have hl0 : Fx.lft (Fx.st M g k (hold room) F q) k = 0 := HD.out.last
          generalize Fx.st M g k (hold room) F q = S at *
          have HR := Lib.hid hR
          clear hR
          rw [hl0]
          clear hl0 HFT HST
          go_wp2_with fail
          refine bodyPost_ret (v := .tuple #[.slice (some ⟨b1, 0, none⟩) k k, .int .i64 q]) (by simp [results, Try.results12, go_sem]) rfl ?_
          exact ⟨b1, rfl, HR.out.ge1, HR.out.out, HR.out.below⟩

end Go.Proofs.Ytndpblgedpdjdaa
