/- The law FlexlineWithin, walked. -/
import Derived.Test.YtndpblgedpdjdaaFlexLawA
namespace Go.Proofs.Ytndpblgedpdjdaa
open Go.RowKit
set_option linter.unusedSimpArgs false
set_option linter.unusedVariables false
attribute [local go_sem] cell?_ext frozen?_ext lt_size_ext

theorem resF_within {L : Nat → It} {n : Nat} {room : Int} {r : Nat} (hd : resD L n room r) : ∀ i, i < n → ((L i).held).clamp (resF L n room r i) = resF L n room r i := fun i hi =>
  (Fx.st_fits (fun i _ => (L i).held_ok) r).within i hi (Fx.lft_zero.1 hd.last i hi)

set_option maxRecDepth 20000 in
set_option maxHeartbeats 4000000 in
theorem Within_walk (ao : Option Addr) (cap n : Nat) (L : Nat → It) (room : Int) (w : World) (hS : Its w ao n L) :
    Calls Try.prog 5 #[.slice ao n cap, .int .i64 room] w fun e w' => e = .returned (.bool true) ∧ Below w.heap.size w w' := by
  have HS := Lib.hid hS
  clear hS
  have hfew := few_any ao cap n
  by_cases hn : n ≤ 60
  · obtain ⟨r, hrn, hd⟩ := resD_some L n room
    have hres := Res_any ao cap n L room r (by omega) hd w HS.out
    have hwi := resF_within hd
    have hof := fun w' (hb : Below w.heap.size w w') => of_any ao cap n L (by omega) w' (HS.out.below hb)
    generalize resF L n room r = f at *
    have HOF := Lib.hid hof
    have HWI := Lib.hid hwi
    rw [decide_eq_true hn] at hfew
    have HFEW := Lib.hid hfew
    have hz : ((n : Int) != (n : Int)) = false := by simp
    clear hd hfew hof hwi
    go_enter Try.func5, Try.ntmps5
    go_wp2_with fail
    refine (HFEW.out _).mono ?_; rintro e w' ⟨rfl, rfl⟩
    go_wp2_with fail
    refine hres.mono ?_; rintro e w1 ⟨o1, rfl, ho1, hr1, hb1⟩
    have HR1 := Lib.hid hr1
    have HB1 := Lib.hid hb1
    clear hr1 hb1 hres
    go_wp2_with fail
    go_loopw [7] (fun v7 wr => ∃ k : Nat, k ≤ n ∧ v7 = .int .i64 k ∧ Below w1.heap.size w1 wr) (fun v7 _ => n - (intOf v7).toNat)
    case atStart => exact ⟨0, Nat.zero_le _, rfl, Below.refl _ _⟩
    case round =>
      obtain ⟨k, hk, rfl, hb⟩ := hrel
      by_cases hlt : k < n
      · have hr := HR1.out.of_block (hb.block o1 HR1.out.lt)
        have d0 := hr.cell hlt
        have dl := hr.lt
        have hhe := fun w => RHeld_item (L k) w
        have hcl : ∀ w, Calls Try.prog 18 #[((L k).held).val, .int .i64 (f k)] w fun e w' => e = .returned (.int .i64 (f k)) ∧ Below w.heap.size w w' := fun w => by
          have h := RClamp_any (L k).held (f k) w
          rw [HWI.out k hlt] at h; exact h
        have hne : (f k != f k) = false := by simp
        have HB := Lib.hid hb
        have HBB := Lib.hid (below_then HB1.out hb)
        unfold It.val at hhe hcl
        generalize f k = x at *
        clear hr hb
        go_wp2_with fail
        go_region_with
          (first
            | (go_at_call 13; refine (HOF.out _ HBB.out.drew).mono ?_; rintro e w2 ⟨ao2, cap2, rfl, ho2, hb2⟩
               obtain ⟨ao2', cap2', he, hI⟩ := Its.of_own ho2
               cases he
               obtain ⟨b2, o2, rfl, hbl, hN⟩ := hI.at hlt
               have c0 := hN.c0
               have c1 := hN.c1
               have c2 := hN.c2
               have c3 := hN.c3
               have c4 := hN.c4
               have c5 := hN.c5
               have c6 := hN.c6
               have HB2 := Lib.hid (below_of_drew hb2)
               have y2 := (HB2.out.cell (p := ⟨o1, k, none⟩) dl).trans d0
               have yl2 := Nat.lt_of_lt_of_le dl HB2.out.size
               clear hN hI ho2 hb2)
            | (go_at_call 16; refine (hhe _).mono ?_; rintro e w3 ⟨rfl, hb3⟩
               have y3 := (hb3.cell (p := ⟨o1, k, none⟩) yl2).trans y2
               have yl3 := Nat.lt_of_lt_of_le yl2 hb3.size
               have HB3 := Lib.hid hb3
               clear hb3)
            | (go_at_call 18; refine (hcl _).mono ?_; rintro e w4 ⟨rfl, hb4⟩
               have y4 := (hb4.cell (p := ⟨o1, k, none⟩) yl3).trans y3
               have HB4 := Lib.hid hb4
               clear hb4))
        all_goals
          go_wp2_with fail
          go_roundw
          case rel => exact ⟨k + 1, hlt, by go_num, below_then (below_then (below_then HB.out HB2.out) HB3.out) HB4.out⟩
          case measure => simp [intOf]; omega
      · obtain rfl : k = n := by omega
        have HB := Lib.hid (below_then HB1.out hb)
        clear hb
        go_wp2_with fail
        refine (known_any _).mono ?_; rintro e w5 ⟨rfl, hb5⟩
        have HB5 := Lib.hid (below_then HB.out hb5)
        clear hb5
        go_wp2_with fail
        go_ret
        exact ⟨rfl, HB5.out⟩
  · rw [decide_eq_false hn] at hfew
    have HFEW := Lib.hid hfew
    clear hfew
    go_enter Try.func5, Try.ntmps5
    go_wp2_with fail
    refine (HFEW.out _).mono ?_; rintro e w' ⟨rfl, rfl⟩
    go_wp2_with fail
    refine (known_any _).mono ?_; rintro e w5 ⟨rfl, hb5⟩
    have HB5 := Lib.hid hb5
    clear hb5
    go_wp2_with fail
    go_ret
    exact ⟨rfl, HB5.out⟩

end Go.Proofs.Ytndpblgedpdjdaa
