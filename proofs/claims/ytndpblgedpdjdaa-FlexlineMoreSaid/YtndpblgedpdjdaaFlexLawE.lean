/- The law FlexlineMore, walked. -/
import Derived.Test.YtndpblgedpdjdaaFlexLawD
import Derived.Laws.AppendOwnNone
namespace Go.Proofs.Ytndpblgedpdjdaa
open Go.RowKit
set_option linter.unusedSimpArgs false
set_option linter.unusedVariables false
attribute [local go_sem] cell?_ext frozen?_ext lt_size_ext

/-- An item that grows otherwise. -/
def It.with_ (t : It) (g : Int) : It := ⟨t.base, t.least, t.most, t.margin, t.inner, g, t.shrink⟩
/-- Two items ahead of others. -/
def two (x y : It) (L : Nat → It) (i : Nat) : It := if i = 0 then x else if i = 1 then y else L (i - 2)
theorem two_cells (x y : It) (L : Nat → It) : ∀ n, itCells (two x y L) (n + 2) = x.cells ++ y.cells ++ itCells L n
  | 0 => by show ([] ++ x.cells) ++ y.cells = x.cells ++ y.cells ++ []; simp
  | n + 1 => by
    show itCells (two x y L) (n + 2) ++ (two x y L (n + 2)).cells = x.cells ++ y.cells ++ (itCells L n ++ (L n).cells)
    have e : two x y L (n + 2) = L n := by unfold two; rw [if_neg (by omega), if_neg (by omega)]; rfl
    rw [two_cells x y L n, e, List.append_assoc (x.cells ++ y.cells)]
theorem its_news {w : World} {a : Addr} {n : Nat} {L : Nat → It} (h : Its w (some a) n L) : ∀ j u, (itCells L n)[j]? = some u → w.cell? (a.add j) = some u := by
  intro j u hu
  have hj : j < n * 7 := by have := (List.getElem?_eq_some_iff.1 hu).1; rwa [itCells_length] at this
  obtain ⟨b, o, e, hbl, hN⟩ := h.at (k := j / 7) (by omega)
  cases e
  have hr : j % 7 < 7 := Nat.mod_lt _ (by decide)
  have hjj : j = j / 7 * 7 + j % 7 := by omega
  rw [hjj, itCells_at L (by omega) hr] at hu
  have e : (⟨b, o, none⟩ : Addr).add j = ⟨b, o + j / 7 * 7 + j % 7, none⟩ := by
    unfold Addr.add; split
    · rename_i h0; congr 1; omega
    · congr 1; show o + j = _; omega
  rw [e]
  generalize j / 7 = k at *
  have hm : j % 7 = 0 ∨ j % 7 = 1 ∨ j % 7 = 2 ∨ j % 7 = 3 ∨ j % 7 = 4 ∨ j % 7 = 5 ∨ j % 7 = 6 := by omega
  rcases hm with h | h | h | h | h | h | h <;> rw [h] at hu ⊢ <;> simp [It.cells] at hu <;> subst hu
  · exact hN.c0
  · exact hN.c1
  · exact hN.c2
  · exact hN.c3
  · exact hN.c4
  · exact hN.c5
  · exact hN.c6
theorem itCells_one (L : Nat → It) : ∀ n, ∀ u ∈ itCells L n, u.oneCell' = true
  | 0, u, h => by cases h
  | n + 1, u, h => by
    have h : u ∈ itCells L n ++ (L n).cells := h
    rcases List.mem_append.1 h with h | h
    · exact itCells_one L n u h
    · exact item_one _ u h

theorem more_fits (t : It) (gr : Int) (L : Nat → It) (n : Nat) (room : Int) (r : Nat) (hn : n + 2 ≤ 1048576) (h0 : 0 ≤ t.grow) (h1 : t.grow < gr)
    (hgr : Fx.grows (fun i => (two (t.with_ gr) t L i).held) (n + 2) (hold room) = true) (hw : (t.with_ gr).held.base ≤ (t.with_ gr).held.wish)
    (hd : resD (two (t.with_ gr) t L) (n + 2) room r) : resF (two (t.with_ gr) t L) (n + 2) room r 1 ≤ resF (two (t.with_ gr) t L) (n + 2) room r 0 := by
  unfold resD at hd
  unfold resF
  try dsimp only at hd ⊢
  rw [hgr] at hd ⊢
  have e0 : ((fun i => (two (t.with_ gr) t L i).held) 0) = (t.with_ gr).held := rfl
  have e1 : ((fun i => (two (t.with_ gr) t L i).held) 1) = t.held := rfl
  have g1 : wt t.grow = hold t.grow := by rw [wt, if_neg (by omega)]
  have g2 : wt gr = hold gr := by rw [wt, if_neg (by omega)]
  refine Fx.more (L := fun i => (two (t.with_ gr) t L i).held) (by omega) (by omega) (fun i _ => It.held_ok _) hgr (fun m => rfl) rfl ?_ ?_ ?_ hd
  · show wt t.grow ≤ wt gr
    rw [g1, g2]; exact hold_mono (by omega)
  · show 0 < wt gr
    rw [g2]; exact (hold_pos gr).2 (by omega)
  · exact hw

set_option maxRecDepth 20000 in
set_option maxHeartbeats 8000000 in
theorem More_walk (ao : Option Addr) (cap n : Nat) (L : Nat → It) (t : It) (gr room : Int) (hno : ao = none → n = 0 ∧ cap = 0) (w : World) (hS : Its w ao n L) :
    Calls Try.prog 8 #[.slice ao n cap, t.val, .int .i64 gr, .int .i64 room] w fun e w' => e = .returned (.bool true) ∧ Below w.heap.size w w' := by
  have HS := Lib.hid hS
  have HB0 := Lib.hid (below_alloc (Below.refl w.heap.size w) (.cells #[.int .i64 t.base, .int .i64 t.least, .int .i64 t.most, .int .i64 t.margin, .int .i64 t.inner, .int .i64 t.grow, .int .i64 t.shrink] 34))
  clear hS
  unfold It.val
  by_cases hn : 30 < n
  · have hd0 : decide ((30 : Int) < (n : Int)) = true := decide_eq_true (by omega)
    go_enter Try.func8, Try.ntmps8
    go_wp2_with fail
    refine (known_any _).mono ?_; rintro e w9 ⟨rfl, hb9⟩
    have HB9 := Lib.hid (below_then HB0.out hb9)
    clear hb9
    go_wp2_with fail
    go_ret
    exact ⟨rfl, HB9.out⟩
  · have hd0 : decide ((30 : Int) < (n : Int)) = false := decide_eq_false (by omega)
    by_cases h0 : t.grow < 0
    · have hd1 : decide (t.grow < 0) = true := decide_eq_true h0
      go_enter Try.func8, Try.ntmps8
      go_wp2_with fail
      refine (known_any _).mono ?_; rintro e w9 ⟨rfl, hb9⟩
      have HB9 := Lib.hid (below_then HB0.out hb9)
      clear hb9
      go_wp2_with fail
      go_ret
      exact ⟨rfl, HB9.out⟩
    · have hd1 : decide (t.grow < 0) = false := decide_eq_false h0
      by_cases h1 : gr ≤ t.grow
      · have hd2 : decide (gr ≤ t.grow) = true := decide_eq_true h1
        go_enter Try.func8, Try.ntmps8
        go_wp2_with fail
        refine (known_any _).mono ?_; rintro e w9 ⟨rfl, hb9⟩
        have HB9 := Lib.hid (below_then HB0.out hb9)
        clear hb9
        go_wp2_with fail
        go_ret
        exact ⟨rfl, HB9.out⟩
      · have hd2 : decide (gr ≤ t.grow) = false := decide_eq_false h1
        obtain ⟨i0, hi, hz0, hz1, hz2⟩ := info_parts item_info
        obtain ⟨r, hrn, hd⟩ := resD_some (two (t.with_ gr) t L) (n + 2) room
        have hres := fun ao cap w hS => Res_any ao cap (n + 2) (two (t.with_ gr) t L) room r (by omega) hd w hS
        have HMORE := Lib.hid (fun hgr hw => more_fits t gr L n room r (by omega) (by omega) (by omega) hgr hw hd)
        have HRES := Lib.hid hres
        obtain ⟨hh, hhe⟩ : ∃ hh, hh = (t.with_ gr).held := ⟨_, rfl⟩
        have HHH : Hid ((t.with_ gr).held = hh) := Lib.hid hhe.symm
        have hhd : ∀ w, Calls Try.prog 16 #[.agg #[.int .i64 t.base, .int .i64 t.least, .int .i64 t.most, .int .i64 t.margin, .int .i64 t.inner, .int .i64 gr, .int .i64 t.shrink]] w fun e w' => e = .returned (.agg #[.int .i64 hh.base, .int .i64 hh.least, .int .i64 hh.most, .int .i64 hh.margin, .int .i64 hh.inner, .int .i64 hh.grow, .int .i64 hh.shrink]) ∧ Below w.heap.size w w' := fun w => by rw [hhe]; exact RHeld_item (t.with_ gr) w
        have hfd : ∀ w : World, (Instr.field 36 (.agg #[.int .i64 hh.base, .int .i64 hh.least, .int .i64 hh.most, .int .i64 hh.margin, .int .i64 hh.inner, .int .i64 hh.grow, .int .i64 hh.shrink]) 0).run Try.prog w = .ok (.int .i64 hh.base) w := fun _ => by kernel_rfl
        have hwi : ∀ w, Calls Try.prog 15 #[.agg #[.int .i64 hh.base, .int .i64 hh.least, .int .i64 hh.most, .int .i64 hh.margin, .int .i64 hh.inner, .int .i64 hh.grow, .int .i64 hh.shrink]] w fun e w' => e = .returned (.int .i64 hh.wish) ∧ Below w.heap.size w w' := fun w => RWish_any hh w
        have hM0 : (two (t.with_ gr) t L 0) = t.with_ gr := rfl
        have HM0 := Lib.hid hM0
        have HALL : Hid (∀ ao cap w, Its w ao (n + 2) (two (t.with_ gr) t L) → Calls Try.prog 20 #[.slice ao (n + 2 : Nat) cap] w (ItsOut w 36 (n + 2) fun i => (two (t.with_ gr) t L i).held)) := Lib.hid fun ao cap w h => RAll_any ao cap (n + 2) _ (by omega) w h
        have HOF : Hid (∀ ao cap w, Its w ao (n + 2) (two (t.with_ gr) t L) → Calls Try.prog 13 #[.slice ao (n + 2 : Nat) cap] w (ItsOut w 36 (n + 2) (two (t.with_ gr) t L))) := Lib.hid fun ao cap w h => of_any ao cap (n + 2) _ (by omega) w h
        have HGW : Hid (∀ ao cap w, Its w ao (n + 2) (fun i => (two (t.with_ gr) t L i).held) → Calls Try.prog 19 #[.slice ao (n + 2 : Nat) cap, .int .i64 room] w fun e w' => e = .returned (.bool (Fx.grows (fun i => (two (t.with_ gr) t L i).held) (n + 2) (hold room))) ∧ Below w.heap.size w w') := Lib.hid fun ao cap w h => RGrows_any ao cap (n + 2) _ room (by omega) (fun i _ => It.held_ok _) w h
        generalize resF (two (t.with_ gr) t L) (n + 2) room r = f at *
        have HHD := Lib.hid hhd
        have HWI := Lib.hid hwi
        clear hres hd hhd hwi hhe
        have hown : (((w.alloc (.cells #[.int .i64 t.base, .int .i64 t.least, .int .i64 t.most, .int .i64 t.margin, .int .i64 t.inner, .int .i64 t.grow, .int .i64 t.shrink] 34)).alloc (.cells #[.int .i64 t.base, .int .i64 t.least, .int .i64 t.most, .int .i64 t.margin, .int .i64 t.inner, .int .i64 gr, .int .i64 t.shrink] 34)).alloc (.cells #[.int .i64 t.base, .int .i64 t.least, .int .i64 t.most, .int .i64 t.margin, .int .i64 t.inner, .int .i64 gr, .int .i64 t.shrink, .int .i64 t.base, .int .i64 t.least, .int .i64 t.most, .int .i64 t.margin, .int .i64 t.inner, .int .i64 t.grow, .int .i64 t.shrink] 34)).ownsRow w.heap.size 34 7 (.slice (some ⟨w.heap.size + 1 + 1, 0, none⟩) 2 2) 2 ((t.with_ gr).cells ++ t.cells) := by
          refine ⟨rfl, .inr ⟨w.heap.size + 1 + 1, 2, #[.int .i64 t.base, .int .i64 t.least, .int .i64 t.most, .int .i64 t.margin, .int .i64 t.inner, .int .i64 gr, .int .i64 t.shrink, .int .i64 t.base, .int .i64 t.least, .int .i64 t.most, .int .i64 t.margin, .int .i64 t.inner, .int .i64 t.grow, .int .i64 t.shrink], rfl, by omega, ?_, Nat.le_refl _, by decide, rfl, rfl⟩⟩
          have h := heap_alloc_new ((w.alloc (.cells #[.int .i64 t.base, .int .i64 t.least, .int .i64 t.most, .int .i64 t.margin, .int .i64 t.inner, .int .i64 t.grow, .int .i64 t.shrink] 34)).alloc (.cells #[.int .i64 t.base, .int .i64 t.least, .int .i64 t.most, .int .i64 t.margin, .int .i64 t.inner, .int .i64 gr, .int .i64 t.shrink] 34)) (.cells #[.int .i64 t.base, .int .i64 t.least, .int .i64 t.most, .int .i64 t.margin, .int .i64 t.inner, .int .i64 gr, .int .i64 t.shrink, .int .i64 t.base, .int .i64 t.least, .int .i64 t.most, .int .i64 t.margin, .int .i64 t.inner, .int .i64 t.grow, .int .i64 t.shrink] 34)
          have e : ((w.alloc (.cells #[.int .i64 t.base, .int .i64 t.least, .int .i64 t.most, .int .i64 t.margin, .int .i64 t.inner, .int .i64 t.grow, .int .i64 t.shrink] 34)).alloc (.cells #[.int .i64 t.base, .int .i64 t.least, .int .i64 t.most, .int .i64 t.margin, .int .i64 t.inner, .int .i64 gr, .int .i64 t.shrink] 34)).heap.size = w.heap.size + 1 + 1 := by simp
          rwa [e] at h
        have hb0 : Below w.heap.size w (((w.alloc (.cells #[.int .i64 t.base, .int .i64 t.least, .int .i64 t.most, .int .i64 t.margin, .int .i64 t.inner, .int .i64 t.grow, .int .i64 t.shrink] 34)).alloc (.cells #[.int .i64 t.base, .int .i64 t.least, .int .i64 t.most, .int .i64 t.margin, .int .i64 t.inner, .int .i64 gr, .int .i64 t.shrink] 34)).alloc (.cells #[.int .i64 t.base, .int .i64 t.least, .int .i64 t.most, .int .i64 t.margin, .int .i64 t.inner, .int .i64 gr, .int .i64 t.shrink, .int .i64 t.base, .int .i64 t.least, .int .i64 t.most, .int .i64 t.margin, .int .i64 t.inner, .int .i64 t.grow, .int .i64 t.shrink] 34)) := below_alloc (below_alloc (below_alloc (Below.refl _ w) _) _) _
        have HOWN := Lib.hid hown
        have HB1 := Lib.hid hb0
        have hIL := HS.out.below hb0
        have HIL := Lib.hid hIL
        clear hown hb0 hIL
        go_enter Try.func8, Try.ntmps8
        go_upto_region 6 with fail
        refine at_any (fun wx => wx.ownsRow w.heap.size 34 7 (.slice (some ⟨w.heap.size + 1 + 1, 0, none⟩) 2 2) 2 ((t.with_ gr).cells ++ t.cells) ∧ Its wx ao n L ∧ Below w.heap.size w wx) ⟨HOWN.out, HIL.out, HB1.out⟩ ?_
        clear HOWN HB1 HIL HS
        rintro wx ⟨hown, hil, hbx⟩
        have hke : (((n + 2 : Nat)) : Int) = (n : Int) + 2 := by omega
        cases ao with
        | none =>
          obtain ⟨hn0, hc0⟩ := hno rfl
          have hown2 : wx.ownsRow w.heap.size 34 7 (.slice (some ⟨w.heap.size + 1 + 1, 0, none⟩) 2 2) (n + 2) (itCells (two (t.with_ gr) t L) (n + 2)) := by rw [two_cells, hn0]; show wx.ownsRow _ _ 7 _ 2 (_ ++ []); rw [List.append_nil]; exact hown
          obtain ⟨ao1, cap1, he, hI⟩ := Its.of_own hown2
          have hb3 := hbx
          have HE := Lib.hid he
          have HI0 := Lib.hid hI
          have HNX : Hid (Value.slice none n cap = .slice none 0 0) := Lib.hid (by rw [hn0, hc0])
          have HOX := Lib.hid hown
          clear hown hown2 hil hbx he hn0 hc0 hno hI
          go_wp2_with ((at_builtin; refine wpList_append_own_none rfl (.tmp 34) (.tmp 35) _ rfl w.heap.size 34 i0 7 Try.underlying22 hi _ _ _ rfl HOX.out HNX.out ?_))
          clear HOX HNX
          rw [HE.out]
          have hI := HI0.out
          obtain ⟨w3, hw3⟩ : ∃ w3, w3 = wx := ⟨_, rfl⟩
          subst hw3
          have HI3 := Lib.hid hI
          have HB3 := Lib.hid hb3
          have hof := HOF.out _ cap1 w3 hI
          clear hI hb3
          go_wp2_with fail
          refine hof.mono ?_; rintro e w4 ⟨ao2, cap2, rfl, ho4, hb4⟩
          obtain ⟨ao2', cap2', he, hI4⟩ := Its.of_own ho4
          cases he
          have hal := HALL.out _ cap2 w4 hI4
          have HB4 := Lib.hid hb4
          clear ho4 hb4 hof hI4
          go_wp2_with fail
          refine hal.mono ?_; rintro e w5 ⟨ao3, cap3, rfl, ho5, hb5⟩
          obtain ⟨ao3', cap3', he, hI5⟩ := Its.of_own ho5
          cases he
          have hgw := HGW.out _ cap3 w5 hI5
          have HB5 := Lib.hid (below_then HB4.out hb5)
          clear ho5 hb5 hal hI5
          cases hgr : Fx.grows (fun i => (two (t.with_ gr) t L i).held) (n + 2) (hold room) with
          | false =>
            rw [hgr] at hgw
            go_wp2_with fail
            refine hgw.mono ?_; rintro e w6 ⟨rfl, hb6⟩
            have HB6 := Lib.hid (below_then HB3.out (below_then HB5.out hb6))
            clear hb6 hgw
            go_wp2_with fail
            refine (known_any _).mono ?_; rintro e w9 ⟨rfl, hb9⟩
            have HB9 := Lib.hid (below_then HB6.out hb9)
            clear hb9
            go_wp2_with fail
            go_ret
            exact ⟨rfl, HB9.out⟩
          | true =>
            rw [hgr] at hgw
            have HGR := Lib.hid hgr
            clear hgr
            go_wp2_with fail
            refine hgw.mono ?_; rintro e w6 ⟨rfl, hb6⟩
            have HB6 := Lib.hid (below_then HB5.out hb6)
            have hof := HOF.out _ cap1 w6 (HI3.out.below HB6.out)
            clear hb6 hgw
            go_wp2_with fail
            refine hof.mono ?_; rintro e w7 ⟨ao7, cap7, rfl, ho7, hb7⟩
            obtain ⟨ao7', cap7', he, hI7⟩ := Its.of_own ho7
            cases he
            obtain ⟨b2, o2, rfl, hbl, hN⟩ := hI7.at (k := 0) (by omega)
            have hN : ItAt w7 b2 o2 (t.with_ gr) := by
              have h := hN
              rw [Nat.zero_mul, Nat.add_zero] at h; exact h
            have c0 : w7.cell? ⟨b2, o2, none⟩ = some (.int .i64 t.base) := hN.c0
            have c1 : w7.cell? ⟨b2, o2 + 1, none⟩ = some (.int .i64 t.least) := hN.c1
            have c2 : w7.cell? ⟨b2, o2 + 2, none⟩ = some (.int .i64 t.most) := hN.c2
            have c3 : w7.cell? ⟨b2, o2 + 3, none⟩ = some (.int .i64 t.margin) := hN.c3
            have c4 : w7.cell? ⟨b2, o2 + 4, none⟩ = some (.int .i64 t.inner) := hN.c4
            have c5 : w7.cell? ⟨b2, o2 + 5, none⟩ = some (.int .i64 gr) := hN.c5
            have c6 : w7.cell? ⟨b2, o2 + 6, none⟩ = some (.int .i64 t.shrink) := hN.c6
            have HB7 := Lib.hid (below_then HB6.out hb7)
            have hhd := HHD.out
            clear hN hI7 ho7 hb7 hof
            go_wp2_with fail
            refine (hhd _).mono ?_; rintro e w8 ⟨rfl, hb8⟩
            have HB8 := Lib.hid (below_then HB7.out hb8)
            have hof := HOF.out _ cap1 w8 (HI3.out.below HB8.out)
            clear hb8 hhd c0 c1 c2 c3 c4 c5 c6 hbl
            go_wp2_with fail
            refine hof.mono ?_; rintro e wa ⟨aoa, capa, rfl, hoa, hba⟩
            obtain ⟨aoa', capa', he, hIa⟩ := Its.of_own hoa
            cases he
            obtain ⟨b2, o2, rfl, hbl, hN⟩ := hIa.at (k := 0) (by omega)
            have hN : ItAt wa b2 o2 (t.with_ gr) := by
              have h := hN
              rw [Nat.zero_mul, Nat.add_zero] at h; exact h
            have c0 : wa.cell? ⟨b2, o2, none⟩ = some (.int .i64 t.base) := hN.c0
            have c1 : wa.cell? ⟨b2, o2 + 1, none⟩ = some (.int .i64 t.least) := hN.c1
            have c2 : wa.cell? ⟨b2, o2 + 2, none⟩ = some (.int .i64 t.most) := hN.c2
            have c3 : wa.cell? ⟨b2, o2 + 3, none⟩ = some (.int .i64 t.margin) := hN.c3
            have c4 : wa.cell? ⟨b2, o2 + 4, none⟩ = some (.int .i64 t.inner) := hN.c4
            have c5 : wa.cell? ⟨b2, o2 + 5, none⟩ = some (.int .i64 gr) := hN.c5
            have c6 : wa.cell? ⟨b2, o2 + 6, none⟩ = some (.int .i64 t.shrink) := hN.c6
            have HBA := Lib.hid (below_then HB8.out hba)
            have hhd := HHD.out
            clear hN hIa hoa hba hof
            go_wp2_with fail
            refine (hhd _).mono ?_; rintro e wb ⟨rfl, hbb⟩
            have HBB := Lib.hid (below_then HBA.out hbb)
            have hwi := HWI.out
            clear hbb hhd c0 c1 c2 c3 c4 c5 c6 hbl
            go_wp2_with fail
            refine (hwi _).mono ?_; rintro e wd ⟨rfl, hbd⟩
            have HBD := Lib.hid (below_then HBB.out hbd)
            clear hbd hwi
            by_cases hbw : hh.wish < hh.base
            · have hd5 : decide (hh.wish < hh.base) = true := decide_eq_true hbw
              have HBE := Lib.hid (below_then HB3.out HBD.out)
              go_wp2_with fail
              refine (known_any _).mono ?_; rintro e w9 ⟨rfl, hb9⟩
              have HB9 := Lib.hid (below_then HBE.out hb9)
              clear hb9
              go_wp2_with fail
              go_ret
              exact ⟨rfl, HB9.out⟩
            · have hd5 : decide (hh.wish < hh.base) = false := decide_eq_false hbw
              have hle := HMORE.out HGR.out (by rw [HHH.out]; omega)
              have hd6 : decide (f 1 ≤ f 0) = true := decide_eq_true hle
              have hres := HRES.out _ cap1 wd (HI3.out.below HBD.out)
              go_wp2_with fail
              refine hres.mono ?_; rintro e wf ⟨o1, rfl, ho1, hr1, hbf⟩
              have x0 := hr1.cell (i := 0) (by omega)
              have xl := hr1.lt
              have x1 := hr1.cell (i := 1) (by omega)
              have HBF := Lib.hid (below_then HB3.out (below_then HBD.out hbf))
              have hs1 : (((n + 2 : Nat) : Int) == ((n + 2 : Nat) : Int)) = true := beq_self_eq_true _
              have hs2 : (((n : Int) + 2) == ((n : Int) + 2)) = true := beq_self_eq_true _
              clear hr1 hbf hres
              go_wp2_with fail
              refine wp_region_ext (by kernel_rfl) (by kernel_rfl) ?_
              repeat (go_big_quiet_step ((go_at_call 10; exact quiet_ext (known_any _))))
              refine wpQuiet_nil ?_
              intro wg hwg
              have hbg := (grown_rules hwg).2.2.2
              have HBG := Lib.hid (below_then HBF.out hbg)
              clear hwg hbg
              go_wp2_with fail
              go_ret
              exact ⟨rfl, HBG.out⟩
        | some a =>
          have HNW := Lib.hid (its_news hil)
          have HOX := Lib.hid hown
          have HBX := Lib.hid hbx
          clear hown hil hbx
          go_wp2_with ((at_builtin; refine wpList_append_own_at _ rfl (.tmp 34) (.tmp 35) _ rfl w.heap.size 34 i0 (.agg #[.int .i64 0, .int .i64 0, .int .i64 0, .int .i64 0, .int .i64 0, .int .i64 0, .int .i64 0]) 7 56 Try.underlying22 hi hz0 hz1 hz2 rfl (by decide) _ _ _ rfl HOX.out a n cap (itCells L n) rfl (itCells_length L n) HNW.out (itCells_one L n) ?c3 ?c4 HBX.out.size ?_))
          case c3 => unfold maxLen; omega
          case c4 => omega
          intro v' w3 hown3 hg3 _ _
          have hb3 : Below w.heap.size w w3 := HBX.out.grown hg3 HBX.out.size fun k hk => (HOX.out.lt k hk).1
          have hown3 : w3.ownsRow w.heap.size 34 7 v' (n + 2) (itCells (two (t.with_ gr) t L) (n + 2)) := by rw [two_cells, Nat.add_comm n 2]; exact hown3
          obtain ⟨ao1, cap1, rfl, hI⟩ := Its.of_own hown3
          clear hown3 hg3 HOX HNW HBX
          have HI3 := Lib.hid hI
          have HB3 := Lib.hid hb3
          have hof := HOF.out _ cap1 w3 hI
          clear hI hb3
          go_wp2_with fail
          refine hof.mono ?_; rintro e w4 ⟨ao2, cap2, rfl, ho4, hb4⟩
          obtain ⟨ao2', cap2', he, hI4⟩ := Its.of_own ho4
          cases he
          have hal := HALL.out _ cap2 w4 hI4
          have HB4 := Lib.hid hb4
          clear ho4 hb4 hof hI4
          go_wp2_with fail
          refine hal.mono ?_; rintro e w5 ⟨ao3, cap3, rfl, ho5, hb5⟩
          obtain ⟨ao3', cap3', he, hI5⟩ := Its.of_own ho5
          cases he
          have hgw := HGW.out _ cap3 w5 hI5
          have HB5 := Lib.hid (below_then HB4.out hb5)
          clear ho5 hb5 hal hI5
          cases hgr : Fx.grows (fun i => (two (t.with_ gr) t L i).held) (n + 2) (hold room) with
          | false =>
            rw [hgr] at hgw
            go_wp2_with fail
            refine hgw.mono ?_; rintro e w6 ⟨rfl, hb6⟩
            have HB6 := Lib.hid (below_then HB3.out (below_then HB5.out hb6))
            clear hb6 hgw
            go_wp2_with fail
            refine (known_any _).mono ?_; rintro e w9 ⟨rfl, hb9⟩
            have HB9 := Lib.hid (below_then HB6.out hb9)
            clear hb9
            go_wp2_with fail
            go_ret
            exact ⟨rfl, HB9.out⟩
          | true =>
            rw [hgr] at hgw
            have HGR := Lib.hid hgr
            clear hgr
            go_wp2_with fail
            refine hgw.mono ?_; rintro e w6 ⟨rfl, hb6⟩
            have HB6 := Lib.hid (below_then HB5.out hb6)
            have hof := HOF.out _ cap1 w6 (HI3.out.below HB6.out)
            clear hb6 hgw
            go_wp2_with fail
            refine hof.mono ?_; rintro e w7 ⟨ao7, cap7, rfl, ho7, hb7⟩
            obtain ⟨ao7', cap7', he, hI7⟩ := Its.of_own ho7
            cases he
            obtain ⟨b2, o2, rfl, hbl, hN⟩ := hI7.at (k := 0) (by omega)
            have hN : ItAt w7 b2 o2 (t.with_ gr) := by
              have h := hN
              rw [Nat.zero_mul, Nat.add_zero] at h; exact h
            have c0 : w7.cell? ⟨b2, o2, none⟩ = some (.int .i64 t.base) := hN.c0
            have c1 : w7.cell? ⟨b2, o2 + 1, none⟩ = some (.int .i64 t.least) := hN.c1
            have c2 : w7.cell? ⟨b2, o2 + 2, none⟩ = some (.int .i64 t.most) := hN.c2
            have c3 : w7.cell? ⟨b2, o2 + 3, none⟩ = some (.int .i64 t.margin) := hN.c3
            have c4 : w7.cell? ⟨b2, o2 + 4, none⟩ = some (.int .i64 t.inner) := hN.c4
            have c5 : w7.cell? ⟨b2, o2 + 5, none⟩ = some (.int .i64 gr) := hN.c5
            have c6 : w7.cell? ⟨b2, o2 + 6, none⟩ = some (.int .i64 t.shrink) := hN.c6
            have HB7 := Lib.hid (below_then HB6.out hb7)
            have hhd := HHD.out
            clear hN hI7 ho7 hb7 hof
            go_wp2_with fail
            refine (hhd _).mono ?_; rintro e w8 ⟨rfl, hb8⟩
            have HB8 := Lib.hid (below_then HB7.out hb8)
            have hof := HOF.out _ cap1 w8 (HI3.out.below HB8.out)
            clear hb8 hhd c0 c1 c2 c3 c4 c5 c6 hbl
            go_wp2_with fail
            refine hof.mono ?_; rintro e wa ⟨aoa, capa, rfl, hoa, hba⟩
            obtain ⟨aoa', capa', he, hIa⟩ := Its.of_own hoa
            cases he
            obtain ⟨b2, o2, rfl, hbl, hN⟩ := hIa.at (k := 0) (by omega)
            have hN : ItAt wa b2 o2 (t.with_ gr) := by
              have h := hN
              rw [Nat.zero_mul, Nat.add_zero] at h; exact h
            have c0 : wa.cell? ⟨b2, o2, none⟩ = some (.int .i64 t.base) := hN.c0
            have c1 : wa.cell? ⟨b2, o2 + 1, none⟩ = some (.int .i64 t.least) := hN.c1
            have c2 : wa.cell? ⟨b2, o2 + 2, none⟩ = some (.int .i64 t.most) := hN.c2
            have c3 : wa.cell? ⟨b2, o2 + 3, none⟩ = some (.int .i64 t.margin) := hN.c3
            have c4 : wa.cell? ⟨b2, o2 + 4, none⟩ = some (.int .i64 t.inner) := hN.c4
            have c5 : wa.cell? ⟨b2, o2 + 5, none⟩ = some (.int .i64 gr) := hN.c5
            have c6 : wa.cell? ⟨b2, o2 + 6, none⟩ = some (.int .i64 t.shrink) := hN.c6
            have HBA := Lib.hid (below_then HB8.out hba)
            have hhd := HHD.out
            clear hN hIa hoa hba hof
            go_wp2_with fail
            refine (hhd _).mono ?_; rintro e wb ⟨rfl, hbb⟩
            have HBB := Lib.hid (below_then HBA.out hbb)
            have hwi := HWI.out
            clear hbb hhd c0 c1 c2 c3 c4 c5 c6 hbl
            go_wp2_with fail
            refine (hwi _).mono ?_; rintro e wd ⟨rfl, hbd⟩
            have HBD := Lib.hid (below_then HBB.out hbd)
            clear hbd hwi
            by_cases hbw : hh.wish < hh.base
            · have hd5 : decide (hh.wish < hh.base) = true := decide_eq_true hbw
              have HBE := Lib.hid (below_then HB3.out HBD.out)
              go_wp2_with fail
              refine (known_any _).mono ?_; rintro e w9 ⟨rfl, hb9⟩
              have HB9 := Lib.hid (below_then HBE.out hb9)
              clear hb9
              go_wp2_with fail
              go_ret
              exact ⟨rfl, HB9.out⟩
            · have hd5 : decide (hh.wish < hh.base) = false := decide_eq_false hbw
              have hle := HMORE.out HGR.out (by rw [HHH.out]; omega)
              have hd6 : decide (f 1 ≤ f 0) = true := decide_eq_true hle
              have hres := HRES.out _ cap1 wd (HI3.out.below HBD.out)
              go_wp2_with fail
              refine hres.mono ?_; rintro e wf ⟨o1, rfl, ho1, hr1, hbf⟩
              have x0 := hr1.cell (i := 0) (by omega)
              have xl := hr1.lt
              have x1 := hr1.cell (i := 1) (by omega)
              have HBF := Lib.hid (below_then HB3.out (below_then HBD.out hbf))
              have hs1 : (((n + 2 : Nat) : Int) == ((n + 2 : Nat) : Int)) = true := beq_self_eq_true _
              have hs2 : (((n : Int) + 2) == ((n : Int) + 2)) = true := beq_self_eq_true _
              clear hr1 hbf hres
              go_wp2_with fail
              refine wp_region_ext (by kernel_rfl) (by kernel_rfl) ?_
              repeat (go_big_quiet_step ((go_at_call 10; exact quiet_ext (known_any _))))
              refine wpQuiet_nil ?_
              intro wg hwg
              have hbg := (grown_rules hwg).2.2.2
              have HBG := Lib.hid (below_then HBF.out hbg)
              clear hwg hbg
              go_wp2_with fail
              go_ret
              exact ⟨rfl, HBG.out⟩

end Go.Proofs.Ytndpblgedpdjdaa
