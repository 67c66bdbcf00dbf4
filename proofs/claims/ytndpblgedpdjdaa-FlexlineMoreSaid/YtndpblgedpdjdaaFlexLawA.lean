/- The laws FlexlineResolves and FlexlineRounds, walked. -/
import Derived.Test.YtndpblgedpdjdaaFlexKnown
namespace Go.Proofs.Ytndpblgedpdjdaa
open Go.RowKit
set_option linter.unusedSimpArgs false
set_option linter.unusedVariables false
attribute [local go_sem] cell?_ext frozen?_ext lt_size_ext

theorem few_any (ao : Option Addr) (cap n : Nat) (w : World) :
    Calls Try.prog 9 #[.slice ao n cap] w fun e w' => e = .returned (.bool (decide (n ≤ 60))) ∧ w = w' := by
  go_enter Try.func9, Try.ntmps9
  go_wp2_with fail
  go_ret
  refine ⟨?_, rfl⟩
  have e : decide ((n : Int) ≤ 60) = decide (n ≤ 60) := by rw [decide_eq_decide]; omega
  simp [e]

/-- A line's lengths. -/
def resF (L : Nat → It) (n : Nat) (room : Int) (r : Nat) : Nat → Int :=
  (Fx.st (fun i => (L i).held) (Fx.grows (fun i => (L i).held) n (hold room)) n (hold room) (Fx.free (fun i => (L i).held) (Fx.st0 (fun i => (L i).held) (Fx.grows (fun i => (L i).held) n (hold room))) n (hold room)) r).out
def resD (L : Nat → It) (n : Nat) (room : Int) (r : Nat) : Prop :=
  Fx.Done (fun i => (L i).held) (Fx.grows (fun i => (L i).held) n (hold room)) n (hold room) (Fx.free (fun i => (L i).held) (Fx.st0 (fun i => (L i).held) (Fx.grows (fun i => (L i).held) n (hold room))) n (hold room)) r
theorem resD_some (L : Nat → It) (n : Nat) (room : Int) : ∃ r, r ≤ n ∧ resD L n room r := Fx.done_exists _ _ _ _ _
theorem Res_any (ao : Option Addr) (cap n : Nat) (L : Nat → It) (room : Int) (r : Nat) (hn : n ≤ 65536) (hd : resD L n room r) (w : World) (hS : Its w ao n L) :
    Calls Try.prog 11 #[.slice ao n cap, .int .i64 room] w (ResOut w n (resF L n room r) r) := Resolve_any ao cap n L room _ r hn rfl hd w hS
theorem RRes_any (ao : Option Addr) (cap n : Nat) (L : Nat → It) (room : Int) (r : Nat) (hn : n ≤ 65536) (hd : resD L n room r) (w : World) (hS : Its w ao n L) :
    Calls Try.prog 12 #[.slice ao n cap, .int .i64 room] w (ResOut w n (resF L n room r) r) := RResolve_any ao cap n L room _ r hn rfl hd w hS

set_option maxHeartbeats 2000000 in
theorem Resolves_walk (ao : Option Addr) (cap n : Nat) (L : Nat → It) (room : Int) (w : World) (hS : Its w ao n L) :
    Calls Try.prog 3 #[.slice ao n cap, .int .i64 room] w fun e w' => e = .returned (.bool true) ∧ Below w.heap.size w w' := by
  have HS := Lib.hid hS
  clear hS
  have hfew := few_any ao cap n
  by_cases hn : n ≤ 60
  · obtain ⟨r, hrn, hd⟩ := resD_some L n room
    have hres := Res_any ao cap n L room r (by omega) hd w HS.out
    have hof := fun w' (hb : Below w.heap.size w w') => of_any ao cap n L (by omega) w' (HS.out.below hb)
    have hrr := fun ao cap w hS => RRes_any ao cap n L room r (by omega) hd w hS
    generalize resF L n room r = f at *
    have HOF := Lib.hid hof
    have HRR := Lib.hid hrr
    rw [decide_eq_true hn] at hfew
    have HFEW := Lib.hid hfew
    have hz : ((r : Int) == (r : Int)) = true := beq_self_eq_true _
    clear hof hrr hd hfew
    go_enter Try.func3, Try.ntmps3
    go_wp2_with fail
    refine (HFEW.out _).mono ?_; rintro e w' ⟨rfl, rfl⟩
    go_wp2_with fail
    refine hres.mono ?_; rintro e w1 ⟨o1, rfl, ho1, hr1, hb1⟩
    have HR1 := Lib.hid hr1
    have HB1 := Lib.hid hb1
    clear hr1 hb1 hres
    go_wp2_with fail
    refine (HOF.out _ HB1.out).mono ?_; rintro e w2 ⟨ao2, cap2, rfl, ho2, hb2⟩
    obtain ⟨ao2', cap2', he, hI⟩ := Its.of_own ho2
    cases he
    have HI := Lib.hid hI
    have HB2 := Lib.hid hb2
    clear hI hb2 ho2
    go_wp2_with fail
    refine (HRR.out _ _ _ HI.out).mono ?_; rintro e w3 ⟨o3, rfl, ho3, hr3, hb3⟩
    have HSA := Lib.hid (((Sl.row HR1.out).below HB2.out).below hb3)
    have HSB := Lib.hid (Sl.row hr3)
    have HB3 := Lib.hid (below_then (below_then HB1.out HB2.out) hb3)
    clear hr3 hb3
    go_wp2_with fail
    refine (RInts_same _ _ _ _ n f f (fun i _ => rfl) (by omega) _ HSA.out HSB.out).mono ?_; rintro e w4 ⟨rfl, hb4⟩
    have HB4 := Lib.hid (below_then HB3.out hb4)
    clear hb4
    go_wp2_with fail
    refine (known_any _).mono ?_; rintro e w5 ⟨rfl, hb5⟩
    have HB5 := Lib.hid (below_then HB4.out hb5)
    clear hb5
    go_wp2_with fail
    go_ret
    exact ⟨rfl, HB5.out⟩
  · rw [decide_eq_false hn] at hfew
    have HFEW := Lib.hid hfew
    clear hfew
    go_enter Try.func3, Try.ntmps3
    go_wp2_with fail
    refine (HFEW.out _).mono ?_; rintro e w' ⟨rfl, rfl⟩
    go_wp2_with fail
    refine (known_any _).mono ?_; rintro e w5 ⟨rfl, hb5⟩
    have HB5 := Lib.hid hb5
    clear hb5
    go_wp2_with fail
    go_ret
    exact ⟨rfl, HB5.out⟩

set_option maxHeartbeats 2000000 in
theorem Rounds_walk (ao : Option Addr) (cap n : Nat) (L : Nat → It) (room : Int) (w : World) (hS : Its w ao n L) :
    Calls Try.prog 6 #[.slice ao n cap, .int .i64 room] w fun e w' => e = .returned (.bool true) ∧ Below w.heap.size w w' := by
  have HS := Lib.hid hS
  clear hS
  have hfew := few_any ao cap n
  by_cases hn : n ≤ 60
  · obtain ⟨r, hrn, hd⟩ := resD_some L n room
    have hres := Res_any ao cap n L room r (by omega) hd w HS.out
    rw [decide_eq_true hn] at hfew
    have HFEW := Lib.hid hfew
    have hz : decide ((r : Int) ≤ (n : Int)) = true := decide_eq_true (by omega)
    clear hd hfew
    go_enter Try.func6, Try.ntmps6
    go_wp2_with fail
    refine (HFEW.out _).mono ?_; rintro e w' ⟨rfl, rfl⟩
    go_wp2_with fail
    refine hres.mono ?_; rintro e w1 ⟨o1, rfl, ho1, hr1, hb1⟩
    have HB1 := Lib.hid hb1
    clear hr1 hb1 hres
    go_wp2_with fail
    refine (known_any _).mono ?_; rintro e w5 ⟨rfl, hb5⟩
    have HB5 := Lib.hid (below_then HB1.out hb5)
    clear hb5
    go_wp2_with fail
    go_ret
    exact ⟨rfl, HB5.out⟩
  · rw [decide_eq_false hn] at hfew
    have HFEW := Lib.hid hfew
    clear hfew
    go_enter Try.func6, Try.ntmps6
    go_wp2_with fail
    refine (HFEW.out _).mono ?_; rintro e w' ⟨rfl, rfl⟩
    go_wp2_with fail
    refine (known_any _).mono ?_; rintro e w5 ⟨rfl, hb5⟩
    have HB5 := Lib.hid hb5
    clear hb5
    go_wp2_with fail
    go_ret
    exact ⟨rfl, HB5.out⟩

end Go.Proofs.Ytndpblgedpdjdaa
