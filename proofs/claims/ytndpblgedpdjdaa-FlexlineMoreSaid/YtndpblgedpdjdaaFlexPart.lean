/- What a round deals; what the open items weigh. -/
import Derived.Test.YtndpblgedpdjdaaFlexOpen
namespace Go.Proofs.Ytndpblgedpdjdaa
open Go.RowKit
set_option linter.unusedSimpArgs false
set_option linter.unusedVariables false
attribute [local go_sem] cell?_ext frozen?_ext lt_size_ext

/-- The open ones, as a slice's numbers. -/
def opF (n : Nat) (fz : Nat → Bool) (k : Nat) : Int := ((Sh.opens n fz).getD k 0 : Nat)
theorem opF_at {n : Nat} {fz : Nat → Bool} {k : Nat} (hk : k < (Sh.opens n fz).length) : ∃ i, i < n ∧ fz i = false ∧ opF n fz k = (i : Int) ∧ (∀ f, Sh.pick n fz f k = f i) ∧ i = (Sh.opens n fz)[k] := by
  have h := Sh.opens_at hk
  refine ⟨_, h.1, h.2, ?_, fun f => Sh.pick_at hk, rfl⟩
  unfold opF; rw [Sh.getD_at' _ _ hk]

set_option maxHeartbeats 4000000 in
theorem part_any (p : Nat) (ao ao2 : Option Addr) (cap cap2 b1 b2 n m : Nat) (L : Nat → It) (S : St) (R first : Int) (g : Bool) (hn : n ≤ 65536) (hR : -1073741824 ≤ R ∧ R ≤ 1073741824) (hL : ∀ i, i < n → (L i).Ok) (hF : Fx.Fits L n S)
    (hm : m = (Sh.opens n S.fz).length) (w0 w : World) (hS : FxLine w0 w p ao cap b1 b2 n L R g S.out S.fz) (hO : Sl w ao2 m (opF n S.fz)) :
    Calls Try.prog 27 #[.pointer (some ⟨p, 0, none⟩), .slice ao2 m cap2, .int .i64 first] w fun e w' => e = .returned (.int .i64 (Fx.given L g n R first S)) ∧ Below w.heap.size w w' := by
  have HS := Lib.hid hS
  have HL := Lib.hid hL
  have HO := Lib.hid hO
  have HM := Lib.hid hm
  have hmn : m ≤ n := by rw [hm]; exact Sh.opens_le n _
  have hfb := Fx.used_bd hL hF (Nat.le_refl n)
  have hnow : -1152921504606846976 ≤ Fx.free L S n R ∧ Fx.free L S n R ≤ 1152921504606846976 := by unfold Fx.free; omega
  have HA := Lib.hid (free_any p ao cap b1 b2 n L S R g hn hR hL hF w0 w hS)
  have HG : Hid (Fx.given L g n R first S = Fx.part (Fx.facs L g S n) first (Fx.free L S n R)) := Lib.hid rfl
  have hsum : Sh.sm (Sh.pick n S.fz fun i => (L i).fac g) m = Fx.facs L g S n := by rw [hm]; exact Sh.sm_opens _ _ _
  have HSUM := Lib.hid hsum
  generalize Fx.free L S n R = now at *
  clear hS hL hF hO hm hfb hR hsum
  go_enter Try.func27, Try.ntmps27
  go_wp2_with fail
  refine HA.out.mono ?_
  rintro e w1 ⟨rfl, hb1⟩
  have HB1 := Lib.hid hb1
  clear hb1
  go_wp2_with fail
  go_loopw [7, 16] (fun v7 v16 wr => ∃ k : Nat, k ≤ m ∧ v16 = .int .i64 k ∧ v7 = .int .i64 (Sh.sm (Sh.pick n S.fz fun i => (L i).fac g) k) ∧ Below w.heap.size w wr) (fun _ v16 _ => m - (intOf v16).toNat)
  case atStart => exact ⟨0, Nat.zero_le _, rfl, rfl, HB1.out⟩
  case round =>
    clear HB1
    obtain ⟨k, hk, rfl, rfl, hb⟩ := hrel
    have hbd : 0 ≤ Sh.sm (Sh.pick n S.fz fun i => (L i).fac g) k ∧ Sh.sm (Sh.pick n S.fz fun i => (L i).fac g) k ≤ 1073741824 * (k : Int) := by
      have key : ∀ j, j < k → 0 ≤ Sh.pick n S.fz (fun i => (L i).fac g) j ∧ Sh.pick n S.fz (fun i => (L i).fac g) j ≤ 1073741824 := fun j hj => by
        obtain ⟨i, hi, -, -, he, -⟩ := opF_at (n := n) (fz := S.fz) (k := j) (by have := HM.out; omega)
        rw [he]; exact It.fac_bd (HL.out i hi) g
      exact ⟨Sh.sm_nonneg fun j hj => (key j hj).1, Sh.sm_le fun j hj => (key j hj).2⟩
    by_cases hlt : k < m
    · have hS := HS.out.then_ hb
      have q0 := hS.blk.cell 0
      have q2 := hS.blk.cell 2
      obtain ⟨i, hi, hzi, hoi, he, -⟩ := opF_at (n := n) (fz := S.fz) (k := k) (by have := HM.out; omega)
      obtain ⟨b3, o3, rfl, hN3⟩ := (HO.out.below hb).at hlt
      have d0 := hN3.2 k hlt
      rw [hoi] at d0
      obtain ⟨b, o, rfl, hbl, hN⟩ := hS.rows.its.at hi
      have c0 := hN.c0
      have c1 := hN.c1
      have c2 := hN.c2
      have c3 := hN.c3
      have c4 := hN.c4
      have c5 := hN.c5
      have c6 := hN.c6
      have l0 := hS.blk.lt
      have HE : Hid (Sh.sm (Sh.pick n S.fz fun i => (L i).fac g) (k + 1) = Sh.sm (Sh.pick n S.fz fun i => (L i).fac g) k + (L i).fac g) := Lib.hid (by rw [← he fun i => (L i).fac g]; rfl)
      have hh := fun w => factor_any (L i) g w
      have b3 := It.fac_bd (HL.out i hi) g
      have HB := Lib.hid hb
      generalize Sh.sm (Sh.pick n S.fz fun i => (L i).fac g) k = a at *
      generalize (L i).fac g = fa at *
      unfold It.val at hh
      clear hN hN3 hS hb hoi he hzi
      go_wp2_with fail
      refine wp_region_ext (by kernel_rfl) (by kernel_rfl) ?_
      repeat (go_big_quiet_step ((go_at_call 43; exact quiet_ext (hh _))))
      refine wpQuiet_nil ?_
      intro w2 hw2
      have hb2 := (grown_rules hw2).2.2.2
      have HB2 := Lib.hid hb2
      clear hw2 hb2
      go_wp2_with fail
      go_roundw
      case rel => exact ⟨k + 1, hlt, by go_num, by rw [HE.out], below_then HB.out HB2.out⟩
      case measure => simp [intOf]; omega
    · obtain rfl : k = m := by omega
      have HB := Lib.hid hb
      clear hb
      have hfa := HSUM.out
      generalize Sh.sm (Sh.pick n S.fz fun i => (L i).fac g) k = a at *
      have HFA := Lib.hid hfa
      clear hfa
      by_cases hs : a < 1000
      · have hp := partH_bd first a 1000
        generalize hpp : partH first a 1000 = pp at *
        have HP := Lib.hid hpp
        clear hpp
        have HPA : Hid (∀ w, Calls Try.prog 44 #[.int .i64 first, .int .i64 a, .int .i64 1000] w fun e w' => e = .returned (.int .i64 pp) ∧ w = w') := Lib.hid (fun w => by have := Part_any first a 1000 w; rw [HP.out] at this; exact this)
        by_cases hc : Fx.ab pp < Fx.ab now
        · have HGG : Hid (Fx.part a first now = pp) := Lib.hid (by unfold Fx.part; rw [if_pos hs, HP.out, if_pos hc])
          go_wp2_with fail
          refine (HPA.out _).mono ?_; rintro e w' ⟨rfl, rfl⟩
          go_wp2_with fail
          refine (size_any pp (by omega) (by omega) _).mono ?_; rintro e w' ⟨rfl, rfl⟩
          go_wp2_with fail
          refine (size_any now hnow.1 hnow.2 _).mono ?_; rintro e w' ⟨rfl, rfl⟩
          go_wp2_with fail
          go_ret
          exact ⟨ret_int (by rw [HG.out, ← HFA.out]; exact HGG.out.symm), HB.out⟩
        · have HGG : Hid (Fx.part a first now = now) := Lib.hid (by unfold Fx.part; rw [if_pos hs, HP.out, if_neg hc])
          go_wp2_with fail
          refine (HPA.out _).mono ?_; rintro e w' ⟨rfl, rfl⟩
          go_wp2_with fail
          refine (size_any pp (by omega) (by omega) _).mono ?_; rintro e w' ⟨rfl, rfl⟩
          go_wp2_with fail
          refine (size_any now hnow.1 hnow.2 _).mono ?_; rintro e w' ⟨rfl, rfl⟩
          go_wp2_with fail
          go_ret
          exact ⟨ret_int (by rw [HG.out, ← HFA.out]; exact HGG.out.symm), HB.out⟩
      · have HGG : Hid (Fx.part a first now = now) := Lib.hid (by unfold Fx.part; rw [if_neg hs])
        go_wp2_with fail
        go_ret
        exact ⟨ret_int (by rw [HG.out, ← HFA.out]; exact HGG.out.symm), HB.out⟩

end Go.Proofs.Ytndpblgedpdjdaa
