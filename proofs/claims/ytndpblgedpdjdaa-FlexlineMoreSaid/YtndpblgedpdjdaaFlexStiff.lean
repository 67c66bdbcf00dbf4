/- Which items do not flex. -/
import Derived.Test.YtndpblgedpdjdaaFlexTry
import Derived.Deep.RegionHeld3
import Derived.Deep.DrawnRows
namespace Go.Proofs.Ytndpblgedpdjdaa
open Go.RowKit
set_option linter.unusedSimpArgs false
set_option linter.unusedVariables false
theorem cell?_ext_drew (w u : World) {b : Nat} (o : Nat) (h : b < w.heap.size) : (ext w.drew u).cell? ⟨b, o, none⟩ = w.cell? ⟨b, o, none⟩ := cell?_ext w.drew u o h
theorem frozen?_ext_drew (w u : World) {b : Nat} (o : Nat) (h : b < w.heap.size) : (ext w.drew u).frozen? ⟨b, o, none⟩ = w.frozen? ⟨b, o, none⟩ := frozen?_ext w.drew u o h
theorem lt_size_ext_drew (w u : World) {b : Nat} (h : b < w.heap.size) : (b < (ext w.drew u).heap.size) = True := lt_size_ext w.drew u h
theorem cell?_ext_alloc (w u : World) (z : Obj) {b : Nat} (o : Nat) (h : b < w.heap.size) : (ext (w.alloc z).drew u).cell? ⟨b, o, none⟩ = w.cell? ⟨b, o, none⟩ :=
  (cell?_ext (w.alloc z).drew u o (by show b < (w.alloc z).heap.size; simp; omega)).trans (World.cell?_of_block (a := ⟨b, o, none⟩) (Below.heap_alloc w z b h))
theorem cell?_ext_new (w u : World) (cs : Array Value) (t : TypeId) (o : Nat) : (ext (w.alloc (.cells cs t)).drew u).cell? ⟨w.heap.size, o, none⟩ = cs[o]? :=
  (cell?_ext (w.alloc (.cells cs t)).drew u o (by show w.heap.size < (w.alloc (.cells cs t)).heap.size; simp)).trans ((Blk.new w t cs).cell o)
theorem frozen?_ext_new (w u : World) (cs : Array Value) (t : TypeId) (o : Nat) : (ext (w.alloc (.cells cs t)).drew u).frozen? ⟨w.heap.size, o, none⟩ = false :=
  (frozen?_ext (w.alloc (.cells cs t)).drew u o (by show w.heap.size < (w.alloc (.cells cs t)).heap.size; simp)).trans ((Blk.new w t cs).frozen o)
theorem lt_size_ext_new (w u : World) (z : Obj) : (w.heap.size < (ext (w.alloc z).drew u).heap.size) = True := lt_size_ext (w.alloc z).drew u (by show w.heap.size < (w.alloc z).heap.size; simp)
theorem lt_size_ext_alloc (w u : World) (z : Obj) {b : Nat} (h : b < w.heap.size) : (b < (ext (w.alloc z).drew u).heap.size) = True := lt_size_ext (w.alloc z).drew u (by show b < (w.alloc z).heap.size; simp; omega)
theorem lt_size_alloc (w : World) {b : Nat} (h : b < w.heap.size) : (b < w.heap.size + 1) = True := eq_true (by omega)
theorem cell?_alloc_lt (w : World) (z : Obj) {b : Nat} (o : Nat) (h : b < w.heap.size) : (w.alloc z).cell? ⟨b, o, none⟩ = w.cell? ⟨b, o, none⟩ := World.cell?_of_block (a := ⟨b, o, none⟩) (Below.heap_alloc w z b h)
attribute [local go_sem] cell?_ext frozen?_ext lt_size_ext cell?_ext_drew frozen?_ext_drew lt_size_ext_drew cell?_ext_alloc cell?_ext_new frozen?_ext_new lt_size_ext_new lt_size_ext_alloc

set_option maxRecDepth 20000 in
set_option maxHeartbeats 4000000 in
theorem stiff_any (p : Nat) (ao : Option Addr) (cap b1 b2 n k : Nat) (L : Nat → It) (R : Int) (g : Bool) (out : Nat → Int) (fz : Nat → Bool) (hn : n ≤ 65536) (hk : k < n) (hH : (L k).held = L k)
    (w0 w : World) (hS : FxLine w0 w p ao cap b1 b2 n L R g out fz) :
    Calls Try.prog 39 #[.pointer (some ⟨p, 0, none⟩), .int .i64 k] w fun e w' => e = .returned (.bool ((L k).stiff g)) ∧ Below w.heap.size w w' := by
  have q0 := hS.blk.cell 0
  have l0 := hS.blk.lt
  obtain ⟨b, o, rfl, hbl, hN⟩ := hS.rows.its.at hk
  have c0 := hN.c0
  have c1 := hN.c1
  have c2 := hN.c2
  have c3 := hN.c3
  have c4 := hN.c4
  have c5 := hN.c5
  have c6 := hN.c6
  have hwi := fun w => Wish_any (L k) w
  rw [hH] at hwi
  have hfa := fun w => factor_any (L k) g w
  have HST : Hid ((L k).stiff g = if (L k).fac g = 0 then true else if g = true then decide ((L k).wish < (L k).base) else decide ((L k).base < (L k).wish)) := Lib.hid rfl
  generalize (L k).wish = wi at *
  generalize (L k).fac g = fa at *
  unfold It.val at hwi hfa
  have HS := Lib.hid hS
  have HFA := Lib.hid hfa
  clear hN hS hH hfa
  go_enter Try.func39, Try.ntmps39
  go_upto_region 1 with fail
  go_cut [5, 6] from 7 to 21 (fun v5 v6 wx => ∃ q, v5 = .pointer (some ⟨q, 0, none⟩) ∧ v6 = .int .i64 wi ∧ Blk wx q 34 (L k).cells.toArray ∧ Below w.heap.size w wx)
  case first =>
    have nb1 : b ≠ w.heap.size := by omega
    have nb2 : w.heap.size ≠ b := by omega
    have np1 : p ≠ w.heap.size := by omega
    have np2 : w.heap.size ≠ p := by omega
    go_region_held3 (fun w' => w'.cell? ⟨p, 0, none⟩ = some (.slice (some ⟨b, o, none⟩) n cap) ∧ w'.cell? ⟨b, o + k * 7, none⟩ = some (.int .i64 (L k).base) ∧ w'.cell? ⟨b, o + k * 7 + 1, none⟩ = some (.int .i64 (L k).least) ∧
        w'.cell? ⟨b, o + k * 7 + 2, none⟩ = some (.int .i64 (L k).most) ∧ w'.cell? ⟨b, o + k * 7 + 3, none⟩ = some (.int .i64 (L k).margin) ∧ w'.cell? ⟨b, o + k * 7 + 4, none⟩ = some (.int .i64 (L k).inner) ∧
        w'.cell? ⟨b, o + k * 7 + 5, none⟩ = some (.int .i64 (L k).grow) ∧ w'.cell? ⟨b, o + k * 7 + 6, none⟩ = some (.int .i64 (L k).shrink) ∧ p < w'.heap.size ∧ b < w'.heap.size) ((((try dsimp only); (repeat' apply And.intro)) <;> (first | (simp [*, World.cell?_setCell_far, lt_size_alloc, cell?_alloc_lt, cell?_ext, lt_size_ext, cell?_ext_drew, lt_size_ext_drew, cell?_ext_alloc, lt_size_ext_alloc]; done) | go_keep)))
      (first | (go_at_call 17; refine (hwi _).mono ?_; rintro e w1 ⟨rfl, hb1⟩; obtain ⟨u, rfl⟩ := ext_of_below hb1; clear hb1))
    all_goals (go_wp2_with fail; go_meet)
    · exact ⟨_, rfl, rfl, Blk.new _ _ _, below_alloc (below_to_ext ((Below.refl w.heap.size w).drew) u) _⟩
    · have h0 : Blk (ext (w.alloc (.cells #[.int .i64 0, .int .i64 0, .int .i64 0, .int .i64 0, .int .i64 0, .int .i64 0, .int .i64 0] 34)).drew u) w.heap.size 34 #[.int .i64 0, .int .i64 0, .int .i64 0, .int .i64 0, .int .i64 0, .int .i64 0, .int .i64 0] :=
        Blk.of_kept (Blk.drew (Blk.new w 34 _)) ((below_ext _ u).block _ (by show w.heap.size < (w.alloc _).heap.size; simp))
      refine ⟨w.heap.size, rfl, rfl, ((((((h0.put 0 _).put 1 _).put 2 _).put 3 _).put 4 _).put 5 _).put 6 _, ?_⟩
      have hb0 : Below w.heap.size w (ext (w.alloc (.cells #[.int .i64 0, .int .i64 0, .int .i64 0, .int .i64 0, .int .i64 0, .int .i64 0, .int .i64 0] 34)).drew u) := below_to_ext ((below_alloc (Below.refl w.heap.size w) _).drew) u
      exact below_set (below_set (below_set (below_set (below_set (below_set (below_set hb0 (Nat.le_refl _) _) (Nat.le_refl _) _) (Nat.le_refl _) _) (Nat.le_refl _) _) (Nat.le_refl _) _) (Nat.le_refl _) _) (Nat.le_refl _) _
  case rest =>
    obtain ⟨q, rfl, rfl, hbk, hb⟩ := hcut
    have hS := HS.out.then_ hb
    have g2 := hS.blk.cell 2
    have x0 := hbk.cell 0
    have x1 := hbk.cell 1
    have x2 := hbk.cell 2
    have x3 := hbk.cell 3
    have x4 := hbk.cell 4
    have x5 := hbk.cell 5
    have x6 := hbk.cell 6
    have lq := hbk.lt
    have lp := hS.blk.lt
    have HB := Lib.hid hb
    unfold It.cells at x0 x1 x2 x3 x4 x5 x6
    clear hS hbk hb q0 l0 hbl c0 c1 c2 c3 c4 c5 c6 hwi
    have hfa := HFA.out
    by_cases hz : fa = 0
    · have HE : Hid ((L k).stiff g = true) := Lib.hid (by rw [HST.out, if_pos hz])
      have z1 : (fa == 0) = true := by rw [hz]; rfl
      clear hz
      go_wp2_with fail
      refine wp_region_ext (by kernel_rfl) (by kernel_rfl) ?_
      repeat (go_big_quiet_step ((go_at_call 43; exact quiet_ext (hfa _))))
      refine wpQuiet_nil ?_
      intro w2 hw2
      have hb2 := (grown_rules hw2).2.2.2
      have HB2 := Lib.hid hb2
      clear hw2 hb2
      go_wp2_with fail
      go_ret
      exact ⟨ret_bool HE.out.symm, below_then HB.out HB2.out⟩
    · have z1 : (fa == 0) = false := beq_false_of_ne hz
      cases g with
      | true =>
        by_cases hc : wi < (L k).base
        · have HE : Hid ((L k).stiff true = true) := Lib.hid (by rw [HST.out, if_neg hz, if_pos rfl]; exact decide_eq_true hc)
          have z2 : decide (wi < (L k).base) = true := decide_eq_true hc
          clear hz
          go_wp2_with fail
          refine wp_region_ext (by kernel_rfl) (by kernel_rfl) ?_
          repeat (go_big_quiet_step ((go_at_call 43; exact quiet_ext (hfa _))))
          refine wpQuiet_nil ?_
          intro w2 hw2
          have hb2 := (grown_rules hw2).2.2.2
          have HB2 := Lib.hid hb2
          clear hw2 hb2
          go_wp2_with fail
          go_ret
          exact ⟨ret_bool HE.out.symm, below_then HB.out HB2.out⟩
        · have HE : Hid ((L k).stiff true = false) := Lib.hid (by rw [HST.out, if_neg hz, if_pos rfl]; exact decide_eq_false hc)
          have z2 : decide (wi < (L k).base) = false := decide_eq_false hc
          clear hz
          go_wp2_with fail
          refine wp_region_ext (by kernel_rfl) (by kernel_rfl) ?_
          repeat (go_big_quiet_step ((go_at_call 43; exact quiet_ext (hfa _))))
          refine wpQuiet_nil ?_
          intro w2 hw2
          have hb2 := (grown_rules hw2).2.2.2
          have HB2 := Lib.hid hb2
          clear hw2 hb2
          go_wp2_with fail
          go_ret
          exact ⟨ret_bool HE.out.symm, below_then HB.out HB2.out⟩
      | false =>
        by_cases hc : (L k).base < wi
        · have HE : Hid ((L k).stiff false = true) := Lib.hid (by rw [HST.out, if_neg hz, if_neg (by simp)]; exact decide_eq_true hc)
          have z2 : decide ((L k).base < wi) = true := decide_eq_true hc
          clear hz
          go_wp2_with fail
          refine wp_region_ext (by kernel_rfl) (by kernel_rfl) ?_
          repeat (go_big_quiet_step ((go_at_call 43; exact quiet_ext (hfa _))))
          refine wpQuiet_nil ?_
          intro w2 hw2
          have hb2 := (grown_rules hw2).2.2.2
          have HB2 := Lib.hid hb2
          clear hw2 hb2
          go_wp2_with fail
          go_ret
          exact ⟨ret_bool HE.out.symm, below_then HB.out HB2.out⟩
        · have HE : Hid ((L k).stiff false = false) := Lib.hid (by rw [HST.out, if_neg hz, if_neg (by simp)]; exact decide_eq_false hc)
          have z2 : decide ((L k).base < wi) = false := decide_eq_false hc
          clear hz
          go_wp2_with fail
          refine wp_region_ext (by kernel_rfl) (by kernel_rfl) ?_
          repeat (go_big_quiet_step ((go_at_call 43; exact quiet_ext (hfa _))))
          refine wpQuiet_nil ?_
          intro w2 hw2
          have hb2 := (grown_rules hw2).2.2.2
          have HB2 := Lib.hid hb2
          clear hw2 hb2
          go_wp2_with fail
          go_ret
          exact ⟨ret_bool HE.out.symm, below_then HB.out HB2.out⟩

end Go.Proofs.Ytndpblgedpdjdaa
