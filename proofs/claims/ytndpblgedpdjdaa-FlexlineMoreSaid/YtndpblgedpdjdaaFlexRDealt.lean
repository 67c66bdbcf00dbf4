/- The reference's Dealt, walked once. -/
import Derived.Test.YtndpblgedpdjdaaFlexRLine
namespace Go.Proofs.Ytndpblgedpdjdaa
open Go.RowKit
set_option linter.unusedSimpArgs false
set_option linter.unusedVariables false
attribute [local go_sem] cell?_ext frozen?_ext lt_size_ext

set_option maxHeartbeats 4000000 in
theorem RDealt_any (ao ao3 : Option Addr) (cap cap3 n : Nat) (L : Nat → It) (S : St) (g : Bool) (first now : Int) (hn : n ≤ 65536) (hL : ∀ i, i < n → (L i).Ok)
    (h1 : -1152921504606846976 ≤ now) (h2 : now ≤ 1152921504606846976) (w : World) (hS : Its w ao n L) (hZ : Bls w ao3 n S.fz) :
    Calls Try.prog 34 #[.slice ao n cap, .slice ao3 n cap3, .bool g, .int .i64 first, .int .i64 now] w fun e w' => e = .returned (.int .i64 (Fx.part (Fx.facs L g S n) first now)) ∧ Below w.heap.size w w' := by
  have HS := Lib.hid hS
  have HZ := Lib.hid hZ
  have HL := Lib.hid hL
  clear hS hL hZ
  go_enter Try.func34, Try.ntmps34
  go_wp2_with fail
  go_loopw [11, 12] (fun v11 v12 wr => ∃ k : Nat, k ≤ n ∧ v12 = .int .i64 k ∧ v11 = .int .i64 (Fx.facs L g S k) ∧ Below w.heap.size w wr) (fun _ v12 _ => n - (intOf v12).toNat)
  case atStart => exact ⟨0, Nat.zero_le _, rfl, rfl, Below.refl _ _⟩
  case round =>
    obtain ⟨k, hk, rfl, rfl, hb⟩ := hrel
    by_cases hlt : k < n
    · obtain ⟨b, o, rfl, hbl, hN⟩ := (HS.out.below hb).at hlt
      obtain ⟨b3, o3, rfl, hbl3, d0⟩ := (HZ.out.below hb).at hlt
      have c0 := hN.c0
      have c1 := hN.c1
      have c2 := hN.c2
      have c3 := hN.c3
      have c4 := hN.c4
      have c5 := hN.c5
      have c6 := hN.c6
      have HB := Lib.hid hb
      have hh := fun w => RFactor_any (L k) g w
      have b1 := Fx.facs_bd (g := g) (S := S) HL.out hk
      have b3 := It.fac_bd (HL.out k hlt) g
      have HE : Hid (Fx.facs L g S (k + 1) = Fx.facs L g S k + if S.fz k = true then 0 else (L k).fac g) := Lib.hid rfl
      generalize Fx.facs L g S k = a at *
      generalize (L k).fac g = fa at *
      unfold It.val at hh
      clear hN hb
      cases hz : S.fz k with
      | true =>
        rw [hz] at d0
        go_wp2_with fail
        go_roundw
        case rel => exact ⟨k + 1, hlt, by go_num, by rw [HE.out, hz]; simp, HB.out⟩
        case measure => simp [intOf]; omega
      | false =>
        rw [hz] at d0
        go_wp2_with fail
        refine (hh _).mono ?_; rintro e w2 ⟨rfl, hb2⟩
        have HB2 := Lib.hid hb2
        clear hb2
        go_wp2_with fail
        go_roundw
        case rel => exact ⟨k + 1, hlt, by go_num, by rw [HE.out, hz]; rfl, below_then HB.out HB2.out⟩
        case measure => simp [intOf]; omega
    · obtain rfl : k = n := by omega
      have HB := Lib.hid hb
      clear hb
      have b1 := Fx.facs_bd (g := g) (S := S) HL.out (Nat.le_refl k)
      generalize hfa : Fx.facs L g S k = a at *
      have HFA := Lib.hid hfa
      clear hfa
      by_cases hs : a < 1000
      · have hp := partH_bd first a 1000
        generalize hpp : partH first a 1000 = p at *
        have HP := Lib.hid hpp
        clear hpp
        have HA : Hid (∀ w, Calls Try.prog 49 #[.int .i64 first, .int .i64 a, .int .i64 1000] w fun e w' => e = .returned (.int .i64 p) ∧ w = w') := Lib.hid (fun w => by have := RPart_any first a 1000 w; rw [HP.out] at this; exact this)
        by_cases hc : Fx.ab p < Fx.ab now
        · have HG : Hid (Fx.part a first now = p) := Lib.hid (by unfold Fx.part; rw [if_pos hs, HP.out, if_pos hc])
          go_wp2_with fail
          refine (HA.out _).mono ?_; rintro e w' ⟨rfl, rfl⟩
          go_wp2_with fail
          refine (RAbs_any p (by omega) (by omega) _).mono ?_; rintro e w' ⟨rfl, rfl⟩
          go_wp2_with fail
          refine (RAbs_any now h1 h2 _).mono ?_; rintro e w' ⟨rfl, rfl⟩
          go_wp2_with fail
          go_ret
          exact ⟨ret_int (by rw [HFA.out]; exact HG.out.symm), HB.out⟩
        · have HG : Hid (Fx.part a first now = now) := Lib.hid (by unfold Fx.part; rw [if_pos hs, HP.out, if_neg hc])
          go_wp2_with fail
          refine (HA.out _).mono ?_; rintro e w' ⟨rfl, rfl⟩
          go_wp2_with fail
          refine (RAbs_any p (by omega) (by omega) _).mono ?_; rintro e w' ⟨rfl, rfl⟩
          go_wp2_with fail
          refine (RAbs_any now h1 h2 _).mono ?_; rintro e w' ⟨rfl, rfl⟩
          go_wp2_with fail
          go_ret
          exact ⟨ret_int (by rw [HFA.out]; exact HG.out.symm), HB.out⟩
      · have HG : Hid (Fx.part a first now = now) := Lib.hid (by unfold Fx.part; rw [if_neg hs])
        go_wp2_with fail
        go_ret
        exact ⟨ret_int (by rw [HFA.out]; exact HG.out.symm), HB.out⟩

end Go.Proofs.Ytndpblgedpdjdaa
