/- A round's tries: lengths with shares, clamped. -/
import Derived.Test.YtndpblgedpdjdaaFlexWeights
import Derived.Deep.CutRange
import Derived.Deep.RegionWith
namespace Go.Proofs.Ytndpblgedpdjdaa
open Go.RowKit
set_option linter.unusedSimpArgs false
set_option linter.unusedVariables false
attribute [local go_sem] cell?_ext frozen?_ext lt_size_ext

/-- Two rows and a sum. -/
def TryOut (w : World) (m : Nat) (f h : Nat → Int) (s : Int) (e : Ending) (w' : World) : Prop :=
  ∃ o1 o2, e = .returned (.tuple #[.slice (some ⟨o1, 0, none⟩) m m, .slice (some ⟨o2, 0, none⟩) m m, .int .i64 s]) ∧ w.heap.size ≤ o1 ∧ w.heap.size ≤ o2 ∧ w'.rowIs o1 3 m (fun i => .int .i64 (f i)) ∧ w'.rowIs o2 3 m (fun i => .int .i64 (h i)) ∧ Below w.heap.size w w'

theorem br_sum {L : Nat → It} {g : Bool} {n : Nat} {R first : Int} {S : St} : Sh.sm (Sh.pick n S.fz (Fx.br L g n R first S)) (Sh.opens n S.fz).length = Fx.brs L g n R first S := by
  rw [Sh.sm_opens]
  refine Sh.sm_congr fun i hi => ?_
  unfold Fx.br
  split <;> rfl

set_option maxRecDepth 20000 in
set_option maxHeartbeats 4000000 in
theorem try_any (p : Nat) (ao ao2 ao3 : Option Addr) (cap cap2 cap3 b1 b2 n m : Nat) (L : Nat → It) (S : St) (R first : Int) (g : Bool) (hn : n ≤ 65536) (hL : ∀ i, i < n → (L i).Ok)
    (hm : m = (Sh.opens n S.fz).length) (w0 w : World) (hS : FxLine w0 w p ao cap b1 b2 n L R g S.out S.fz) (hO : Sl w ao2 m (opF n S.fz)) (hT : Sl w ao3 m (Sh.pick n S.fz (Fx.share L g n R first S))) :
    Calls Try.prog 25 #[.pointer (some ⟨p, 0, none⟩), .slice ao2 m cap2, .slice ao3 m cap3] w
      (TryOut w m (Sh.pick n S.fz (Fx.len L g n R first S)) (Sh.pick n S.fz (Fx.br L g n R first S)) (Fx.brs L g n R first S)) := by
  have hmn : m ≤ n := by rw [hm]; exact Sh.opens_le n _
  have hmk := run_make_row' (P := Try.prog) 25 3 (.int .i64 0) 8 Try.underlying25 int_info rfl .i64 .i64 m (by omega) (by omega)
  have hbrs : Sh.sm (Sh.pick n S.fz (Fx.br L g n R first S)) m = Fx.brs L g n R first S := by rw [hm]; exact br_sum
  have HBRS := Lib.hid hbrs
  have HS := Lib.hid hS
  have HO := Lib.hid hO
  have HT := Lib.hid hT
  have HM := Lib.hid hm
  have HL := Lib.hid hL
  clear hS hO hT hm hL hbrs
  have hr1 : (((w.alloc (.cells (madeCells #[.int .i64 0] m) 3)).alloc (.cells (madeCells #[.int .i64 0] m) 3)).drew).rowIs w.heap.size 3 m (fun _ => .int .i64 0) := (World.rowIs_made w (.int .i64 0) m 3).alloc _
  have hr2 : (((w.alloc (.cells (madeCells #[.int .i64 0] m) 3)).alloc (.cells (madeCells #[.int .i64 0] m) 3)).drew).rowIs (w.heap.size + 1) 3 m (fun _ => .int .i64 0) := by
    have := World.rowIs_made (w.alloc (.cells (madeCells #[.int .i64 0] m) 3)) (.int .i64 0) m 3
    have h2 : ((w.alloc (.cells (madeCells #[.int .i64 0] m) 3)).alloc (.cells (madeCells #[.int .i64 0] m) 3)).rowIs (w.heap.size + 1) 3 m (fun _ => .int .i64 0) := by simpa using this
    exact h2
  have hb0 : Below w.heap.size w (((w.alloc (.cells (madeCells #[.int .i64 0] m) 3)).alloc (.cells (madeCells #[.int .i64 0] m) 3)).drew) := (below_alloc (below_alloc (Below.refl w.heap.size w) _) _).drew
  go_enter Try.func25, Try.ntmps25
  go_upto_region 1 with fail
  go_cut [9, 10, 11] from 15 to 20 (fun v9 v10 v11 wx => ∃ o1 o2, o1 ≠ o2 ∧ w.heap.size ≤ o1 ∧ w.heap.size ≤ o2 ∧ v9 = .slice (some ⟨o1, 0, none⟩) m m ∧ v10 = .slice (some ⟨o2, 0, none⟩) m m ∧ v11 = .int .i64 0 ∧
    wx.rowIs o1 3 m (fun _ => .int .i64 0) ∧ wx.rowIs o2 3 m (fun _ => .int .i64 0) ∧ Below w.heap.size w wx)
  case first =>
    go_region
    all_goals (go_wp2_with fail; go_meet)
    · exact ⟨w.heap.size, w.heap.size + 1, by omega, Nat.le_refl _, by omega, rfl, rfl, rfl, hr1, hr2, hb0⟩
    · exact ⟨w.heap.size + 1, w.heap.size, by omega, by omega, Nat.le_refl _, rfl, rfl, rfl, hr2, hr1, hb0⟩
  case rest =>
    clear hr1 hr2 hb0
    obtain ⟨o1, o2, hne, hge1, hge2, rfl, rfl, rfl, hr1, hr2, hb⟩ := hcut
    have HR1 := Lib.hid hr1
    have HR2 := Lib.hid hr2
    have HB := Lib.hid hb
    clear hr1 hr2 hb
    go_wp2_with fail
    go_loopw [11, 23] (fun v11 v23 wr => ∃ k : Nat, k ≤ m ∧ v23 = .int .i64 k ∧ v11 = .int .i64 (Sh.sm (Sh.pick n S.fz (Fx.br L g n R first S)) k) ∧
      wr.rowIs o1 3 m (fun i => .int .i64 (if i < k then Sh.pick n S.fz (Fx.len L g n R first S) i else 0)) ∧
      wr.rowIs o2 3 m (fun i => .int .i64 (if i < k then Sh.pick n S.fz (Fx.br L g n R first S) i else 0)) ∧ Below w.heap.size w wr) (fun _ v23 _ => m - (intOf v23).toNat)
    case atStart => exact ⟨0, Nat.zero_le _, rfl, rfl, HR1.out.congr (fun i hi => by simp), HR2.out.congr (fun i hi => by simp), HB.out⟩
    case round =>
      clear HR1 HR2 HB
      obtain ⟨k, hk, rfl, rfl, hr1, hr2, hb⟩ := hrel
      have hbd : -2147483648 * (k : Int) ≤ Sh.sm (Sh.pick n S.fz (Fx.br L g n R first S)) k ∧ Sh.sm (Sh.pick n S.fz (Fx.br L g n R first S)) k ≤ 2147483648 * (k : Int) := sm_bd _ 2147483648 k fun j hj => by
        obtain ⟨i, hi, -, -, he, -⟩ := opF_at (n := n) (fz := S.fz) (k := j) (by have := HM.out; omega)
        rw [he]
        have := Fx.br_bd (g := g) (R := R) (first := first) (S := S) HL.out hi
        omega
      by_cases hlt : k < m
      · have hS := HS.out.then_ hb
        have q0 := hS.blk.cell 0
        obtain ⟨i, hi', hzi, hoi, he, -⟩ := opF_at (n := n) (fz := S.fz) (k := k) (by have := HM.out; omega)
        obtain ⟨b3, o3, rfl, hN3⟩ := (HO.out.below hb).at hlt
        obtain ⟨b4, o4, rfl, hN4⟩ := (HT.out.below hb).at hlt
        have d0 := hN3.2 k hlt
        have d1 := hN4.2 k hlt
        rw [hoi] at d0
        rw [he] at d1
        obtain ⟨b, o, rfl, hbl, hN⟩ := hS.rows.its.at hi'
        have c0 := hN.c0
        have c1 := hN.c1
        have c2 := hN.c2
        have c3 := hN.c3
        have c4 := hN.c4
        have c5 := hN.c5
        have c6 := hN.c6
        have m1 := (HL.out i hi').base
        have m2 := Fx.share_bd (L := L) (g := g) (R := R) (first := first) (S := S) hi'
        have m3 := Fx.len_bd (g := g) (R := R) (first := first) (S := S) HL.out hi'
        have m4 := Fx.raw_bd (L := L) (g := g) (n := n) (R := R) (first := first) (S := S) i
        have hra : addH (L i).base (Fx.share L g n R first S i) = Fx.raw L g n R first S i := by
          unfold addH
          rw [hold_id m1.1 m1.2, hold_id m2.1 m2.2]; rfl
        have hbr : Fx.br L g n R first S i = Fx.len L g n R first S i - Fx.raw L g n R first S i := by unfold Fx.br; rw [if_neg (by rw [hzi]; simp)]
        have HE1 : Hid (Sh.pick n S.fz (Fx.len L g n R first S) k = Fx.len L g n R first S i) := Lib.hid (he _)
        have HE2 : Hid (Sh.pick n S.fz (Fx.br L g n R first S) k = Fx.len L g n R first S i - Fx.raw L g n R first S i) := Lib.hid ((he _).trans hbr)
        have HE : Hid (Sh.sm (Sh.pick n S.fz (Fx.br L g n R first S)) (k + 1) = Sh.sm (Sh.pick n S.fz (Fx.br L g n R first S)) k + Sh.pick n S.fz (Fx.br L g n R first S) k) := Lib.hid rfl
        have hcl : ∀ w, Calls Try.prog 37 #[(L i).val, .int .i64 (Fx.raw L g n R first S i)] w fun e w' => e = .returned (.int .i64 (Fx.len L g n R first S i)) ∧ Below w.heap.size w w' := fun w => clamped_any (L i) _ w
        have had : ∀ w, Calls Try.prog 40 #[.int .i64 (L i).base, .int .i64 (Fx.share L g n R first S i)] w fun e w' => e = .returned (.int .i64 (Fx.raw L g n R first S i)) ∧ w = w' := fun w => by
          have := Add_any (L i).base (Fx.share L g n R first S i) w
          rw [hra] at this; exact this
        have HR1 := Lib.hid hr1
        have HR2 := Lib.hid hr2
        have HB := Lib.hid hb
        generalize Sh.sm (Sh.pick n S.fz (Fx.br L g n R first S)) k = a at *
        generalize hral : Fx.raw L g n R first S i = ra at *
        generalize hlel : Fx.len L g n R first S i = le at *
        generalize hshl : Fx.share L g n R first S i = sh at *
        unfold It.val at hcl
        clear hN hN3 hN4 hS hb hoi he hzi hr1 hr2 hra hbr hral hlel hshl
        go_wp2_with fail
        go_quiet ((go_at_call 40; exact quiet_left (had _)))
        go_wp2_with fail
        refine (hcl _).mono ?_; rintro e w7 ⟨rfl, hb7⟩
        have hb7 := below_then (below_drawn (Below.refl wr.heap.size wr) _) hb7
        have hr1 := HR1.out.of_block (hb7.block o1 HR1.out.lt)
        have hr2 := HR2.out.of_block (hb7.block o2 HR2.out.lt)
        have e1 := hr1.cell hlt
        have f1 := hr1.frozen k
        have e2 := hr2.cell hlt
        have f2 := hr2.frozen k
        have HR1 := Lib.hid hr1
        have HR2 := Lib.hid hr2
        have HB := Lib.hid (below_then HB.out hb7)
        clear hr1 hr2 hb7 c0 c1 c2 c3 c4 c5 c6 d0 d1 q0 hcl had hbl
        go_wp2_with fail
        go_roundw
        case rel =>
          refine ⟨k + 1, hlt, by go_num, by rw [HE.out, HE2.out], ((HR1.out.set k _).setOther (a := ⟨o2, k, none⟩) hne _).congr fun x hx => ?_, ((HR2.out.setOther (a := ⟨o1, k, none⟩) (Ne.symm hne) _).set k _).congr fun x hx => ?_, below_set (below_set HB.out (by exact hge1) _) (by exact hge2) _⟩
          · by_cases h : x = k
            · subst h; rw [if_pos rfl, if_pos (by omega), HE1.out]
            · simp only [h, if_false]; by_cases h2 : x < k
              · rw [if_pos h2, if_pos (by omega)]
              · rw [if_neg h2, if_neg (by omega)]
          · by_cases h : x = k
            · subst h; rw [if_pos rfl, if_pos (by omega), HE2.out]
            · simp only [h, if_false]; by_cases h2 : x < k
              · rw [if_pos h2, if_pos (by omega)]
              · rw [if_neg h2, if_neg (by omega)]
        case measure => simp [intOf]; omega
      · obtain rfl : k = m := by omega
        have hr1 := hr1.congr (g := fun i => .int .i64 (Sh.pick n S.fz (Fx.len L g n R first S) i)) (fun i hi => by rw [if_pos hi])
        have hr2 := hr2.congr (g := fun i => .int .i64 (Sh.pick n S.fz (Fx.br L g n R first S) i)) (fun i hi => by rw [if_pos hi])
        have HR1 := Lib.hid hr1
        have HR2 := Lib.hid hr2
        have HB := Lib.hid hb
        clear hr1 hr2 hb
        go_wp2_with fail
        refine bodyPost_ret (v := .tuple #[.slice (some ⟨o1, 0, none⟩) k k, .slice (some ⟨o2, 0, none⟩) k k, .int .i64 (Sh.sm (Sh.pick n S.fz (Fx.br L g n R first S)) k)]) (by simp [results, Try.results25, go_sem]) rfl ?_
        exact ⟨o1, o2, by rw [HBRS.out], hge1, hge2, HR1.out, HR2.out, HB.out⟩

end Go.Proofs.Ytndpblgedpdjdaa
