/- A line begun. -/
import Derived.Test.YtndpblgedpdjdaaFlexStiff
import Derived.Deep.AppendLies
namespace Go.Proofs.Ytndpblgedpdjdaa
open Go.RowKit
set_option linter.unusedSimpArgs false
set_option linter.unusedVariables false
attribute [local go_sem] cell?_ext frozen?_ext lt_size_ext cell?_ext_drew frozen?_ext_drew lt_size_ext_drew cell?_ext_alloc cell?_ext_new frozen?_ext_new lt_size_ext_new lt_size_ext_alloc

theorem below_of_drew {w w1 : World} (h : Below w.drew.heap.size w.drew w1) : Below w.heap.size w w1 := ⟨h.os, h.tape, h.output, h.size, h.block⟩

/-- A walk goes on at any world of which some facts are known. -/
theorem at_any {P : Program} {c : Code} {Q : Exit → Act → World → Prop} {a : Act} {w : World} (F : World → Prop) (h : F w) (k : ∀ wx, F wx → c.wp P Q a wx) : c.wp P Q a w := k w h

/-- The first two rows and the line that holds them. -/
structure FxFresh (w wx : World) (p b1 b2 n : Nat) (R : Int) : Prop where
  blk : Blk wx p 50 #[.slice none 0 0, .int .i64 R, .bool false, .slice (some ⟨b1, 0, none⟩) n n, .slice (some ⟨b2, 0, none⟩) n n]
  out : wx.rowIs b1 3 n (fun _ => .int .i64 0)
  fz : wx.rowIs b2 4 n (fun _ => .bool false)
  ne : b1 ≠ b2
  ne1 : p ≠ b1
  ne2 : p ≠ b2
  ge : w.heap.size ≤ p
  ge1 : w.heap.size ≤ b1
  ge2 : w.heap.size ≤ b2
  below : Below w.heap.size w wx
theorem FxFresh.one (w : World) (n : Nat) (R : Int) : FxFresh w (((w.alloc (.cells (madeCells #[.int .i64 0] n) 3)).alloc (.cells (madeCells #[.bool false] n) 4)).alloc (.cells #[.slice none 0 0, .int .i64 R, .bool false, .slice (some ⟨w.heap.size, 0, none⟩) n n, .slice (some ⟨w.heap.size + 1, 0, none⟩) n n] 50))
    (w.heap.size + 2) w.heap.size (w.heap.size + 1) n R := by
  refine ⟨?_, ((World.rowIs_made w (.int .i64 0) n 3).alloc _).alloc _, ?_, by omega, by omega, by omega, by omega, by omega, by omega, below_alloc (below_alloc (below_alloc (Below.refl _ _) _) _) _⟩
  · have := Blk.new ((w.alloc (.cells (madeCells #[.int .i64 0] n) 3)).alloc (.cells (madeCells #[.bool false] n) 4)) 50 #[.slice none 0 0, .int .i64 R, .bool false, .slice (some ⟨w.heap.size, 0, none⟩) n n, .slice (some ⟨w.heap.size + 1, 0, none⟩) n n]
    simpa using this
  · have := (World.rowIs_made (w.alloc (.cells (madeCells #[.int .i64 0] n) 3)) (.bool false) n 4).alloc (.cells #[.slice none 0 0, .int .i64 R, .bool false, .slice (some ⟨w.heap.size, 0, none⟩) n n, .slice (some ⟨w.heap.size + 1, 0, none⟩) n n] 50)
    simpa using this
theorem FxFresh.two (w : World) (n : Nat) (R : Int) : FxFresh w (((w.alloc (.cells (madeCells #[.bool false] n) 4)).alloc (.cells (madeCells #[.int .i64 0] n) 3)).alloc (.cells #[.slice none 0 0, .int .i64 R, .bool false, .slice (some ⟨w.heap.size + 1, 0, none⟩) n n, .slice (some ⟨w.heap.size, 0, none⟩) n n] 50))
    (w.heap.size + 2) (w.heap.size + 1) w.heap.size n R := by
  refine ⟨?_, ?_, ((World.rowIs_made w (.bool false) n 4).alloc _).alloc _, by omega, by omega, by omega, by omega, by omega, by omega, below_alloc (below_alloc (below_alloc (Below.refl _ _) _) _) _⟩
  · have := Blk.new ((w.alloc (.cells (madeCells #[.bool false] n) 4)).alloc (.cells (madeCells #[.int .i64 0] n) 3)) 50 #[.slice none 0 0, .int .i64 R, .bool false, .slice (some ⟨w.heap.size + 1, 0, none⟩) n n, .slice (some ⟨w.heap.size, 0, none⟩) n n]
    simpa using this
  · have := (World.rowIs_made (w.alloc (.cells (madeCells #[.bool false] n) 4)) (.int .i64 0) n 3).alloc (.cells #[.slice none 0 0, .int .i64 R, .bool false, .slice (some ⟨w.heap.size + 1, 0, none⟩) n n, .slice (some ⟨w.heap.size, 0, none⟩) n n] 50)
    simpa using this
theorem FxFresh.drew {w wx : World} {p b1 b2 n : Nat} {R : Int} (h : FxFresh w wx p b1 b2 n R) : FxFresh w wx.drew p b1 b2 n R :=
  ⟨h.blk, h.out, h.fz, h.ne, h.ne1, h.ne2, h.ge, h.ge1, h.ge2, h.below.drew⟩

/-- Seven cells written. -/
theorem put7 {w0 w : World} {q : Nat} {t : TypeId} {a0 a1 a2 a3 a4 a5 a6 : Value} (h : Blk w q t #[a0, a1, a2, a3, a4, a5, a6]) (hq : w0.heap.size ≤ q) (hb : Below w0.heap.size w0 w) (x0 x1 x2 x3 x4 x5 x6 : Value) :
    Blk (((((((w.setCell ⟨q, 0, none⟩ x0).setCell ⟨q, 1, none⟩ x1).setCell ⟨q, 2, none⟩ x2).setCell ⟨q, 3, none⟩ x3).setCell ⟨q, 4, none⟩ x4).setCell ⟨q, 5, none⟩ x5).setCell ⟨q, 6, none⟩ x6) q t #[x0, x1, x2, x3, x4, x5, x6] ∧
    Below w0.heap.size w0 (((((((w.setCell ⟨q, 0, none⟩ x0).setCell ⟨q, 1, none⟩ x1).setCell ⟨q, 2, none⟩ x2).setCell ⟨q, 3, none⟩ x3).setCell ⟨q, 4, none⟩ x4).setCell ⟨q, 5, none⟩ x5).setCell ⟨q, 6, none⟩ x6) := by
  have h0 : Blk (w.setCell ⟨q, 0, none⟩ x0) q t #[x0, a1, a2, a3, a4, a5, a6] := h.put 0 x0
  have k0 : Below w0.heap.size w0 (w.setCell ⟨q, 0, none⟩ x0) := below_set hb hq _
  generalize w.setCell ⟨q, 0, none⟩ x0 = w1 at *
  have h1 : Blk (w1.setCell ⟨q, 1, none⟩ x1) q t #[x0, x1, a2, a3, a4, a5, a6] := h0.put 1 x1
  have k1 : Below w0.heap.size w0 (w1.setCell ⟨q, 1, none⟩ x1) := below_set k0 hq _
  generalize w1.setCell ⟨q, 1, none⟩ x1 = w2 at *
  have h2 : Blk (w2.setCell ⟨q, 2, none⟩ x2) q t #[x0, x1, x2, a3, a4, a5, a6] := h1.put 2 x2
  have k2 : Below w0.heap.size w0 (w2.setCell ⟨q, 2, none⟩ x2) := below_set k1 hq _
  generalize w2.setCell ⟨q, 2, none⟩ x2 = w3 at *
  have h3 : Blk (w3.setCell ⟨q, 3, none⟩ x3) q t #[x0, x1, x2, x3, a4, a5, a6] := h2.put 3 x3
  have k3 : Below w0.heap.size w0 (w3.setCell ⟨q, 3, none⟩ x3) := below_set k2 hq _
  generalize w3.setCell ⟨q, 3, none⟩ x3 = w4 at *
  have h4 : Blk (w4.setCell ⟨q, 4, none⟩ x4) q t #[x0, x1, x2, x3, x4, a5, a6] := h3.put 4 x4
  have k4 : Below w0.heap.size w0 (w4.setCell ⟨q, 4, none⟩ x4) := below_set k3 hq _
  generalize w4.setCell ⟨q, 4, none⟩ x4 = w5 at *
  have h5 : Blk (w5.setCell ⟨q, 5, none⟩ x5) q t #[x0, x1, x2, x3, x4, x5, a6] := h4.put 5 x5
  have k5 : Below w0.heap.size w0 (w5.setCell ⟨q, 5, none⟩ x5) := below_set k4 hq _
  generalize w5.setCell ⟨q, 5, none⟩ x5 = w6 at *
  have h6 : Blk (w6.setCell ⟨q, 6, none⟩ x6) q t #[x0, x1, x2, x3, x4, x5, x6] := h5.put 6 x6
  have k6 : Below w0.heap.size w0 (w6.setCell ⟨q, 6, none⟩ x6) := below_set k5 hq _
  generalize w6.setCell ⟨q, 6, none⟩ x6 = w7 at *
  exact ⟨h6, k6⟩

/-- Behind an append of an item and the store of the new row: what holds. -/
theorem appended {w wx w1 : World} {p b1 b2 q g B n k cap' : Nat} {R : Int} {vl : Value} {M : Nat → It} {c : Array Value} {t : TypeId}
    (hbp : Blk wx p 50 #[vl, .int .i64 R, .bool false, .slice (some ⟨b1, 0, none⟩) n n, .slice (some ⟨b2, 0, none⟩) n n]) (hq : Blk wx q 34 #[.int .i64 (M k).base, .int .i64 (M k).least, .int .i64 (M k).most, .int .i64 (M k).margin, .int .i64 (M k).inner, .int .i64 (M k).grow, .int .i64 (M k).shrink])
    (hr1 : wx.rowIs b1 3 n (fun _ => .int .i64 0)) (hr2 : wx.rowIs b2 4 n (fun _ => .bool false)) (hown : w1.ownsRow B 34 7 (.slice (some ⟨g, 0, none⟩) (k + 1 : Nat) cap') (k + 1) (itCells M k ++ (M k).cells))
    (hgrow : (wx.alloc (.cells c t)).drew.grownBy w1 vl.ownBlock) (hvl : ∀ g, vl.ownBlock = some g → B ≤ g ∧ g < q) (lp : p < B) (l1 : b1 < B) (l2 : b2 < B) (ne1 : p ≠ b1) (ne2 : p ≠ b2) (hB : B ≤ q) (hwB : w.heap.size ≤ B) (hwp : w.heap.size ≤ p)
    (hb : Below w.heap.size w wx) :
    Blk (w1.setCell ⟨p, 0, none⟩ (.slice (some ⟨g, 0, none⟩) (k + 1 : Nat) cap')) p 50 #[.slice (some ⟨g, 0, none⟩) (k + 1 : Nat) cap', .int .i64 R, .bool false, .slice (some ⟨b1, 0, none⟩) n n, .slice (some ⟨b2, 0, none⟩) n n] ∧
    (w1.setCell ⟨p, 0, none⟩ (.slice (some ⟨g, 0, none⟩) (k + 1 : Nat) cap')).ownsRow B 34 7 (.slice (some ⟨g, 0, none⟩) (k + 1 : Nat) cap') (k + 1) (itCells M (k + 1)) ∧
    Blk (w1.setCell ⟨p, 0, none⟩ (.slice (some ⟨g, 0, none⟩) (k + 1 : Nat) cap')) q 34 #[.int .i64 (M k).base, .int .i64 (M k).least, .int .i64 (M k).most, .int .i64 (M k).margin, .int .i64 (M k).inner, .int .i64 (M k).grow, .int .i64 (M k).shrink] ∧ (w1.setCell ⟨p, 0, none⟩ (.slice (some ⟨g, 0, none⟩) (k + 1 : Nat) cap')).rowIs b1 3 n (fun _ => .int .i64 0) ∧
    (w1.setCell ⟨p, 0, none⟩ (.slice (some ⟨g, 0, none⟩) (k + 1 : Nat) cap')).rowIs b2 4 n (fun _ => .bool false) ∧ B ≤ (w1.setCell ⟨p, 0, none⟩ (.slice (some ⟨g, 0, none⟩) (k + 1 : Nat) cap')).heap.size ∧
    Below w.heap.size w (w1.setCell ⟨p, 0, none⟩ (.slice (some ⟨g, 0, none⟩) (k + 1 : Nat) cap')) := by
  have hsz : (wx.alloc (.cells c t)).drew.heap.size = wx.heap.size + 1 := by show (wx.alloc _).heap.size = _; simp
  have hs1 := hgrow.size
  have hql := hq.lt
  have hkb : ∀ b, b < wx.heap.size → some b ≠ vl.ownBlock → w1.heap[b]? = wx.heap[b]? := fun b hb hne => (hgrow.block b (by rw [hsz]; omega) hne).trans (Below.heap_alloc wx _ b hb)
  have np : some p ≠ vl.ownBlock := fun e => by have := (hvl p e.symm).1; omega
  have n1 : some b1 ≠ vl.ownBlock := fun e => by have := (hvl b1 e.symm).1; omega
  have n2 : some b2 ≠ vl.ownBlock := fun e => by have := (hvl b2 e.symm).1; omega
  have nq : some q ≠ vl.ownBlock := fun e => by have := (hvl q e.symm).2; omega
  have hg := (hown.lt g rfl).1
  refine ⟨(hbp.of_kept (hkb p hbp.lt np)).put 0 _, own_of_block hown fun b hb => ?_, (hq.of_kept (hkb q hql nq)).far (p := ⟨p, 0, none⟩) (by show q ≠ p; omega) _,
    (hr1.of_block (hkb b1 hr1.lt n1)).setOther (a := ⟨p, 0, none⟩) (Ne.symm ne1) _, (hr2.of_block (hkb b2 hr2.lt n2)).setOther (a := ⟨p, 0, none⟩) (Ne.symm ne2) _, by simp [World.setCell]; omega, ?_⟩
  · have : g = b := by simpa [Value.ownBlock] using hb
    subst this
    exact Below.heap_setCell w1 _ _ g (by show g ≠ p; omega)
  · exact below_set (((below_alloc hb _).drew).grown hgrow (by rw [hsz]; have := hb.size; omega) fun b hb => by have := (hvl b hb).1; omega) hwp _

/-- What begins a line. -/
def BeginOut (w : World) (n : Nat) (M : Nat → It) (R : Int) (g : Bool) (x : Ending) (w' : World) : Prop :=
  ∃ p ao cap b1 b2, x = .returned (.pointer (some ⟨p, 0, none⟩)) ∧ FxLine w w' p ao cap b1 b2 n M R g (Fx.st0 M g).out (Fx.st0 M g).fz

set_option maxRecDepth 20000 in
set_option maxHeartbeats 8000000 in
theorem begin_any (ao : Option Addr) (cap n : Nat) (L : Nat → It) (room : Int) (hn : n ≤ 65536) (w : World) (hS : Its w ao n L) :
    Calls Try.prog 22 #[.slice ao n cap, .int .i64 room] w (BeginOut w n (fun i => (L i).held) (hold room) (Fx.grows (fun i => (L i).held) n (hold room))) := by
  obtain ⟨i0, hi, hz0, hz1, hz2⟩ := info_parts item_info
  have hmk1 := run_make_row' (P := Try.prog) 25 3 (.int .i64 0) 8 Try.underlying25 int_info rfl .i64 .i64 n (by omega) (by omega)
  have hmk2 := run_make_row' (P := Try.prog) 48 4 (.bool false) 1 Try.underlying48 bool_info rfl .i64 .i64 n (by omega) (by omega)
  have hrb := hold_bd room
  have hho := Hold_any room
  generalize hold room = R at *
  have hOk : ∀ i, i < n → ((fun i => (L i).held) i).Ok := fun i _ => (L i).held_ok
  have hHH : ∀ i, ((fun i => (L i).held) i).held = (fun i => (L i).held) i := fun i => It.held_held (L i)
  have hhd : ∀ i w, Calls Try.prog 36 #[(L i).val] w fun e w' => e = .returned (((fun i => (L i).held) i).val) ∧ Below w.heap.size w w' := fun i w => held_any (L i) w
  have HHD := Lib.hid hhd
  generalize (fun i => (L i).held) = M at *
  obtain ⟨g, hg⟩ : ∃ g, g = Fx.grows M n R := ⟨_, rfl⟩
  rw [← hg]
  have HGG : Hid (decide (Fx.wishes M n < R) = g) := Lib.hid hg.symm
  have HOK := Lib.hid hOk
  have HHH := Lib.hid hHH
  have HS := Lib.hid hS
  have HHO := Lib.hid hho
  clear hS hho hOk hHH hhd hg
  go_enter Try.func22, Try.ntmps22
  go_upto_region 1 with fail
  go_cut [5] from 10 to 19 (fun v5 wx => ∃ p b1 b2, v5 = .pointer (some ⟨p, 0, none⟩) ∧ FxFresh w wx p b1 b2 n R)
  case first =>
    go_region_with (first | (go_at_call 38; refine (HHO.out _).mono ?_; rintro e w' ⟨rfl, rfl⟩))
    all_goals (go_wp2_with fail; go_meet)
    all_goals (first | exact ⟨_, _, _, rfl, FxFresh.one w n R⟩ | exact ⟨_, _, _, rfl, (FxFresh.one w n R).drew⟩ | exact ⟨_, _, _, rfl, FxFresh.two w n R⟩ | exact ⟨_, _, _, rfl, (FxFresh.two w n R).drew⟩)
  case rest =>
    clear hmk1 hmk2 HHO
    obtain ⟨p, b1, b2, rfl, hf⟩ := hcut
    have l0 := hf.blk.lt
    have l1 := hf.out.lt
    have l2 := hf.fz.lt
    obtain ⟨B, hB⟩ : ∃ B, B = wc.heap.size := ⟨_, rfl⟩
    rw [← hB] at l0 l1 l2
    have hbw : w.heap.size ≤ B := by rw [hB]; exact hf.below.size
    have hf2 : Blk wc p 50 #[.slice none 0 0, .int .i64 R, .bool false, .slice (some ⟨b1, 0, none⟩) n n, .slice (some ⟨b2, 0, none⟩) n n] := hf.blk
    have HB0 := Lib.hid hB
    have HF := Lib.hid hf
    clear hf hf2 hB
    go_wp2_with fail
    go_loopw [6, 22] (fun v6 v22 wr => ∃ (k : Nat) (vl : Value), k ≤ n ∧ v22 = .int .i64 k ∧ v6 = .int .i64 (Fx.wishes M k) ∧
      Blk wr p 50 #[vl, .int .i64 R, .bool false, .slice (some ⟨b1, 0, none⟩) n n, .slice (some ⟨b2, 0, none⟩) n n] ∧ wr.ownsRow B 34 7 vl k (itCells M k) ∧
      wr.rowIs b1 3 n (fun _ => .int .i64 0) ∧ wr.rowIs b2 4 n (fun _ => .bool false) ∧ B ≤ wr.heap.size ∧ Below w.heap.size w wr) (fun _ v22 _ => n - (intOf v22).toNat)
    case atStart => exact ⟨0, _, Nat.zero_le _, rfl, rfl, HF.out.blk, World.ownsRow_nil _ _ _ _, HF.out.out, HF.out.fz, by rw [HB0.out]; exact Nat.le_refl _, HF.out.below⟩
    case round =>
      obtain ⟨k, vl, hk, rfl, rfl, hbp, ho, hr1, hr2, hBs, hb⟩ := hrel
      by_cases hlt : k < n
      · obtain ⟨b, o, rfl, hbl, hN⟩ := (HS.out.below hb).at hlt
        have c0 := hN.c0
        have c1 := hN.c1
        have c2 := hN.c2
        have c3 := hN.c3
        have c4 := hN.c4
        have c5 := hN.c5
        have c6 := hN.c6
        have HBP := Lib.hid hbp
        have HO := Lib.hid ho
        have HR1 := Lib.hid hr1
        have HR2 := Lib.hid hr2
        have HB := Lib.hid hb
        have hh := fun w => HHD.out k w
        have hwb := wishes_bd HOK.out hk
        have hmb := (HOK.out k hlt).margin
        have hww := It.wish_bd (HOK.out k hlt)
        have HE : Hid (Fx.wishes M (k + 1) = Fx.wishes M k + ((M k).wish + (M k).margin)) := Lib.hid rfl
        have hcl := fun w => clamped_any (M k) (M k).base w
        have HCL : Hid (∀ w, Calls Try.prog 37 #[(M k).val, .int .i64 (M k).base] w fun e w' => e = .returned (.int .i64 (M k).wish) ∧ Below w.heap.size w w') := Lib.hid hcl
        have hvl : ∀ g, vl.ownBlock = some g → B ≤ g ∧ g < wr.heap.size := ho.lt
        have HVL := Lib.hid hvl
        generalize Fx.wishes M k = ws at *
        unfold It.val at hh
        clear hN hbp ho hr1 hr2 hb hcl hvl
        go_wp2_with fail
        refine (hh _).mono ?_; rintro e w2 ⟨rfl, hb2⟩
        have hq0 : Blk w2 wr.heap.size 34 #[.int .i64 (L k).base, .int .i64 (L k).least, .int .i64 (L k).most, .int .i64 (L k).margin, .int .i64 (L k).inner, .int .i64 (L k).grow, .int .i64 (L k).shrink] :=
          Blk.of_kept (Blk.new wr 34 _) (hb2.block _ (by simp))
        have hq1 := below_then (below_alloc (Below.refl wr.heap.size wr) _) hb2
        obtain ⟨u, rfl⟩ := ext_of_below hb2
        have HQ0 := Lib.hid hq0
        have HQ1 := Lib.hid hq1
        clear hb2 hq0 hq1
        go_upto_region 7 with fail
        refine at_any (fun wx => Blk wx wr.heap.size 34 #[.int .i64 (M k).base, .int .i64 (M k).least, .int .i64 (M k).most, .int .i64 (M k).margin, .int .i64 (M k).inner, .int .i64 (M k).grow, .int .i64 (M k).shrink] ∧ Below wr.heap.size wr wx) (put7 HQ0.out (Nat.le_refl _) HQ1.out _ _ _ _ _ _ _) ?_
        clear HQ0 HQ1
        rintro wx ⟨hbq, hbx⟩
        have hbp := HBP.out.of_kept (hbx.block p HBP.out.lt)
        have g0 := hbp.cell 0
        have gf := hbp.frozen 0
        have gl := hbp.lt
        have x0 := hbq.cell 0
        have x1 := hbq.cell 1
        have x2 := hbq.cell 2
        have x3 := hbq.cell 3
        have x4 := hbq.cell 4
        have x5 := hbq.cell 5
        have x6 := hbq.cell 6
        have xl := hbq.lt
        have HBP := Lib.hid hbp
        have HBQ := Lib.hid hbq
        have HBX := Lib.hid hbx
        clear hbp hbq hbx c0 c1 c2 c3 c4 c5 c6 hh
        have hox : (wx.alloc (.cells #[.int .i64 (M k).base, .int .i64 (M k).least, .int .i64 (M k).most, .int .i64 (M k).margin, .int .i64 (M k).inner, .int .i64 (M k).grow, .int .i64 (M k).shrink] 34)).ownsRow B 34 7 vl k (itCells M k) := (own_then HO.out HBX.out).alloc _
        have hnews : ∀ j u, (M k).cells[j]? = some u → (wx.alloc (.cells #[.int .i64 (M k).base, .int .i64 (M k).least, .int .i64 (M k).most, .int .i64 (M k).margin, .int .i64 (M k).inner, .int .i64 (M k).grow, .int .i64 (M k).shrink] 34)).cell? ((⟨wx.heap.size, 0, none⟩ : Addr).add j) = some u := by
          intro j u hj
          have e : (⟨wx.heap.size, 0, none⟩ : Addr).add j = ⟨wx.heap.size, j, none⟩ := by
            unfold Addr.add; split
            · rename_i h0; rw [h0]
            · simp
          rw [e, (Blk.new wx _ _).cell]
          simpa [It.cells] using hj
        have hone : ∀ u ∈ (M k).cells, u.oneCell' = true := by
          intro u hu
          simp [It.cells] at hu
          rcases hu with rfl | rfl | rfl | rfl | rfl | rfl | rfl <;> rfl
        have hbs : B ≤ (wx.alloc (.cells #[.int .i64 (M k).base, .int .i64 (M k).least, .int .i64 (M k).most, .int .i64 (M k).margin, .int .i64 (M k).inner, .int .i64 (M k).grow, .int .i64 (M k).shrink] 34)).heap.size := by
          have := HBX.out.size; simp; omega
        have hbs2 : wr.heap.size ≤ wx.heap.size := HBX.out.size
        have hmx : k + 1 ≤ maxLen := by unfold maxLen; omega
        have hby : (k + 1) * 56 ≤ 140737488355328 := by omega
        have HOX := Lib.hid hox
        have HNEWS := Lib.hid hnews
        have HONE := Lib.hid hone
        have HBS := Lib.hid hbs
        have hqn : wr.heap.size ≠ wx.heap.size := by omega
        have hqn2 : wx.heap.size ≠ wr.heap.size := by omega
        have hpn : p ≠ wx.heap.size := by omega
        have hpn2 : wx.heap.size ≠ p := by omega
        have HKB : Hid (∀ b w1, b < wx.heap.size → some b ≠ vl.ownBlock → (wx.alloc (.cells #[.int .i64 (M k).base, .int .i64 (M k).least, .int .i64 (M k).most, .int .i64 (M k).margin, .int .i64 (M k).inner, .int .i64 (M k).grow, .int .i64 (M k).shrink] 34)).drew.grownBy w1 vl.ownBlock → w1.heap[b]? = wx.heap[b]?) := Lib.hid fun b w1 hb hne hg =>
          (hg.block b (by show b < (wx.alloc _).heap.size; simp; omega) hne).trans (Below.heap_alloc wx _ b hb)
        have HKP : Hid (∀ b o w1, b < wx.heap.size → some b ≠ vl.ownBlock → (wx.alloc (.cells #[.int .i64 (M k).base, .int .i64 (M k).least, .int .i64 (M k).most, .int .i64 (M k).margin, .int .i64 (M k).inner, .int .i64 (M k).grow, .int .i64 (M k).shrink] 34)).drew.grownBy w1 vl.ownBlock → w1.cell? ⟨b, o, none⟩ = wx.cell? ⟨b, o, none⟩) := Lib.hid fun b o w1 hb hne hg =>
          World.cell?_of_block (a := ⟨b, o, none⟩) (HKB.out b w1 hb hne hg)
        have HNP : Hid (some p ≠ vl.ownBlock) := Lib.hid fun e => by have := (HVL.out p e.symm).1; omega
        have HNQ : Hid (some wr.heap.size ≠ vl.ownBlock) := Lib.hid fun e => by have := (HVL.out _ e.symm).2; omega
        clear hox hnews hone hbs
        go_region_law ((first
            | (refine step_append_lies _ rfl (.tmp 32) (.tmp 34) _ rfl B 34 i0 (.agg #[.int .i64 0, .int .i64 0, .int .i64 0, .int .i64 0, .int .i64 0, .int .i64 0, .int .i64 0]) 7 56 Try.underlying22 hi hz0 hz1 hz2 rfl (by decide) vl k (itCells M k) rfl HOX.out ⟨wx.heap.size, 0, none⟩ 1 1 (M k).cells rfl rfl HNEWS.out HONE.out (by decide) hmx hby HBS.out _ rfl ?_
               intro g cap' w1 hown hgrow hat hlt1
               have y0 := (HKP.out p 0 w1 gl HNP.out hgrow).trans g0
               have y1 := (World.frozen?_of_block (a := ⟨p, 0, none⟩) (HKB.out p w1 gl HNP.out hgrow)).trans gf
               have y2 : p < w1.heap.size := Nat.lt_of_lt_of_le gl (by have := hgrow.size; have e : (wx.alloc (.cells #[.int .i64 (M k).base, .int .i64 (M k).least, .int .i64 (M k).most, .int .i64 (M k).margin, .int .i64 (M k).inner, .int .i64 (M k).grow, .int .i64 (M k).shrink] 34)).drew.heap.size = wx.heap.size + 1 := (by show (wx.alloc _).heap.size = _; simp); omega)
               have z0 := (HKP.out wr.heap.size 0 w1 xl HNQ.out hgrow).trans x0
               have z1 := (HKP.out wr.heap.size 1 w1 xl HNQ.out hgrow).trans x1
               have z2 := (HKP.out wr.heap.size 2 w1 xl HNQ.out hgrow).trans x2
               have z3 := (HKP.out wr.heap.size 3 w1 xl HNQ.out hgrow).trans x3
               have z4 := (HKP.out wr.heap.size 4 w1 xl HNQ.out hgrow).trans x4
               have z5 := (HKP.out wr.heap.size 5 w1 xl HNQ.out hgrow).trans x5
               have z6 := (HKP.out wr.heap.size 6 w1 xl HNQ.out hgrow).trans x6)))
        all_goals
          have HOWN := Lib.hid hown
          have HGW := Lib.hid hgrow
          clear hown hgrow hat hlt1 y0 y1 y2 z0 z1 z2 z3 z4 z5 z6
          go_upto_region 8 with fail
          refine at_any (fun wz => Blk wz p 50 #[.slice (some ⟨g, 0, none⟩) (k + 1 : Nat) cap', .int .i64 R, .bool false, .slice (some ⟨b1, 0, none⟩) n n, .slice (some ⟨b2, 0, none⟩) n n] ∧ wz.ownsRow B 34 7 (.slice (some ⟨g, 0, none⟩) (k + 1 : Nat) cap') (k + 1) (itCells M (k + 1)) ∧
            Blk wz wr.heap.size 34 #[.int .i64 (M k).base, .int .i64 (M k).least, .int .i64 (M k).most, .int .i64 (M k).margin, .int .i64 (M k).inner, .int .i64 (M k).grow, .int .i64 (M k).shrink] ∧ wz.rowIs b1 3 n (fun _ => .int .i64 0) ∧ wz.rowIs b2 4 n (fun _ => .bool false) ∧ B ≤ wz.heap.size ∧ Below w.heap.size w wz)
            (appended HBP.out HBQ.out (HR1.out.of_block (HBX.out.block b1 HR1.out.lt)) (HR2.out.of_block (HBX.out.block b2 HR2.out.lt)) HOWN.out HGW.out HVL.out l0 l1 l2 HF.out.ne1 HF.out.ne2 hBs hbw HF.out.ge (below_then HB.out HBX.out)) ?_
          clear HKB HKP HNP HNQ HONE HBS HNEWS HOX HOWN HGW x0 x1 x2 x3 x4 x5 x6 xl g0 gf gl hqn hqn2 hpn hpn2 hbs2 hmx hby
          rintro wz ⟨hp, ho, hq, hr1, hr2, hBs2, hb⟩
          have x0 := hq.cell 0
          have x1 := hq.cell 1
          have x2 := hq.cell 2
          have x3 := hq.cell 3
          have x4 := hq.cell 4
          have x5 := hq.cell 5
          have x6 := hq.cell 6
          have xl := hq.lt
          have HP := Lib.hid hp
          have HO2 := Lib.hid ho
          have HR12 := Lib.hid hr1
          have HR22 := Lib.hid hr2
          have HB2 := Lib.hid hb
          have hcl := HCL.out
          generalize (M k).wish = wi at *
          unfold It.val at hcl
          clear hp ho hq hr1 hr2 hb
          refine wp_region_ext (by kernel_rfl) (by kernel_rfl) ?_
          repeat (go_big_quiet_step ((go_at_call 37; exact quiet_ext (hcl _))))
          refine wpQuiet_nil ?_
          intro w4 hw4
          have hb4 := (grown_rules hw4).2.2.2
          have HB4 := Lib.hid hb4
          clear hw4 hb4 hcl
          go_wp2_with fail
          go_roundw
          case rel =>
            exact ⟨k + 1, _, hlt, by go_num, by rw [HE.out], HP.out.of_kept (HB4.out.block p HP.out.lt), own_then HO2.out HB4.out, HR12.out.of_block (HB4.out.block b1 HR12.out.lt), HR22.out.of_block (HB4.out.block b2 HR22.out.lt), Nat.le_trans hBs2 HB4.out.size, below_then HB2.out HB4.out⟩
          case measure => simp [intOf]; omega
      · obtain rfl : k = n := by omega
        obtain ⟨ao', cap', rfl, hI⟩ := Its.of_own ho
        have hfar : ∀ a, ao' = some a → B ≤ a.block := fun a e => (ho.lt a.block (by rw [e]; rfl)).1
        have q0 := hbp.cell 0
        have q1 := hbp.cell 1
        have q2 := hbp.cell 2
        have f2 := hbp.frozen 2
        have lp := hbp.lt
        have hfx : ∀ g : Bool, FxLine w (wr.setCell ⟨p, 2, none⟩ (.bool g)) p ao' cap' b1 b2 k M R g (fun _ => 0) (fun _ => false) := fun g =>
          ⟨⟨FxRows.its_far (a := ⟨p, 2, none⟩) hI (fun a e => by have := hfar a e; show a.block ≠ p; omega) _, fun a e => by have := hfar a e; omega, fun a e => by have := hfar a e; omega, HF.out.ne, HF.out.ge1, HF.out.ge2,
            hr1.setOther (a := ⟨p, 2, none⟩) (Ne.symm HF.out.ne1) _, hr2.setOther (a := ⟨p, 2, none⟩) (Ne.symm HF.out.ne2) _, below_set hb HF.out.ge _⟩, hbp.put 2 _, HF.out.ne1, HF.out.ne2, HF.out.ge⟩
        have HFX := Lib.hid hfx
        clear hfx hbp hr1 hr2 hb ho hI
        go_upto_region 11 with fail
        rw [HGG.out]
        refine at_any (fun wz => FxLine w wz p ao' cap' b1 b2 k M R g (fun _ => 0) (fun _ => false)) (HFX.out g) ?_
        clear q0 q1 q2 f2 lp HFX
        intro wz hz
        have q0 := hz.blk.cell 0
        have HZ := Lib.hid hz
        clear hz
        go_wp2_with fail
        clear q0
        go_loopw [9, 62] (fun _ v62 wr => ∃ j : Nat, j ≤ k ∧ v62 = .int .i64 j ∧ FxLine w wr p ao' cap' b1 b2 k M R g (fun i => if i < j then (Fx.st0 M g).out i else 0) (fun i => if i < j then (Fx.st0 M g).fz i else false)) (fun _ v62 _ => k - (intOf v62).toNat)
        case atStart => exact ⟨0, Nat.zero_le _, rfl, HZ.out.congr (fun i hi => by simp) (fun i hi => by simp)⟩
        case round =>
          clear HZ
          obtain ⟨j, hj, rfl, hX⟩ := hrel
          by_cases hjk : j < k
          · have hE1 : (Fx.st0 M g).fz j = (M j).stiff g := rfl
            have hE2 : (Fx.st0 M g).out j = if (M j).stiff g = true then (M j).wish else 0 := rfl
            have hst := stiff_any p ao' cap' b1 b2 k j M R g _ _ hn hjk (HHH.out j) w wr hX
            have hwi := fun w => Wish_any (M j) w
            rw [HHH.out j] at hwi
            have HX := Lib.hid hX
            have HE1 := Lib.hid hE1
            have HE2 := Lib.hid hE2
            have HEQ : Hid (∀ x, x ≠ j → ((if x < j then (Fx.st0 M g).out x else 0) = if x < j + 1 then (Fx.st0 M g).out x else 0) ∧ ((if x < j then (Fx.st0 M g).fz x else false) = if x < j + 1 then (Fx.st0 M g).fz x else false)) := Lib.hid fun x hx => by
              by_cases h2 : x < j
              · rw [if_pos h2, if_pos (by omega), if_pos h2, if_pos (by omega)]; exact ⟨rfl, rfl⟩
              · rw [if_neg h2, if_neg (by omega), if_neg h2, if_neg (by omega)]; exact ⟨rfl, rfl⟩
            clear hX hE1 hE2
            generalize (M j).wish = wi at *
            cases hz : (M j).stiff g with
            | true =>
              rw [hz] at hst HE1 HE2
              go_wp2_with fail
              refine hst.mono ?_; rintro e w3 ⟨rfl, hb3⟩
              have hX3 := HX.out.then_ hb3
              obtain ⟨b, o, hao, hbl, hN⟩ := hX3.rows.its.at hjk
              have q0 := hX3.blk.cell 0
              rw [hao] at q0
              have q3 := hX3.blk.cell 3
              have q4 := hX3.blk.cell 4
              have lp := hX3.blk.lt
              have l1 := hX3.rows.out.lt
              have l2 := hX3.rows.fz.lt
              have hX4 : ∀ b', b' = b → b1 ≠ b' ∧ b2 ≠ b' := fun b' e => ⟨fun e2 => hX3.rows.far1 _ hao (by rw [e2, e]), fun e2 => hX3.rows.far2 _ hao (by rw [e2, e])⟩
              have c0 := hN.c0
              have c1 := hN.c1
              have c2 := hN.c2
              have c3 := hN.c3
              have c4 := hN.c4
              have c5 := hN.c5
              have c6 := hN.c6
              have e1 := hX3.rows.out.cell hjk
              have f1 := hX3.rows.out.frozen j
              have e2 := hX3.rows.fz.cell hjk
              have f2 := hX3.rows.fz.frozen j
              have hne := hX3.rows.ne
              have hne1 := HF.out.ne1
              have hne2 := HF.out.ne2
              have HX3 := Lib.hid hX3
              unfold It.val at hwi
              have HN := Lib.hid hN
              have nb1 : b1 ≠ b := (hX4 b rfl).1
              have nb2 : b2 ≠ b := (hX4 b rfl).2
              have HAO := Lib.hid hao
              clear hN hX3 hb3 hst hX4 hao
              go_wp2_with fail
              have np1 : b1 ≠ p := Ne.symm hne1
              have np2 : b2 ≠ p := Ne.symm hne2
              go_region_held3 (fun w' => w'.cell? ⟨p, 0, none⟩ = some (.slice (some ⟨b, o, none⟩) k cap') ∧ w'.cell? ⟨p, 3, none⟩ = some (.slice (some ⟨b1, 0, none⟩) k k) ∧ w'.cell? ⟨p, 4, none⟩ = some (.slice (some ⟨b2, 0, none⟩) k k) ∧
                  w'.cell? ⟨b, o + j * 7, none⟩ = some (.int .i64 (M j).base) ∧ w'.cell? ⟨b, o + j * 7 + 1, none⟩ = some (.int .i64 (M j).least) ∧ w'.cell? ⟨b, o + j * 7 + 2, none⟩ = some (.int .i64 (M j).most) ∧
                  w'.cell? ⟨b, o + j * 7 + 3, none⟩ = some (.int .i64 (M j).margin) ∧ w'.cell? ⟨b, o + j * 7 + 4, none⟩ = some (.int .i64 (M j).inner) ∧ w'.cell? ⟨b, o + j * 7 + 5, none⟩ = some (.int .i64 (M j).grow) ∧ w'.cell? ⟨b, o + j * 7 + 6, none⟩ = some (.int .i64 (M j).shrink))
                ((((try dsimp only); (repeat' apply And.intro)) <;> (first | assumption | (exact (World.cell?_setCell_far _ _ _ _ (by assumption)).trans (by assumption)) | (exact (World.cell?_setCell_far _ _ _ _ (by assumption)).trans ((World.cell?_setCell_far _ _ _ _ (by assumption)).trans (by assumption))))))
                (first | (go_at_call 17; refine (hwi _).mono ?_; rintro e w1 ⟨rfl, hb1⟩
                          have hX5 := HX3.out.then_ (below_of_drew hb1)
                          have hN5 := HN.out.kept (hb1.block b hbl)
                          have q0' := hX5.blk.cell 0
                          rw [HAO.out] at q0'
                          have q3' := hX5.blk.cell 3
                          have q4' := hX5.blk.cell 4
                          have lp' := hX5.blk.lt
                          have l1' := hX5.rows.out.lt
                          have l2' := hX5.rows.fz.lt
                          have c0' := hN5.c0
                          have c1' := hN5.c1
                          have c2' := hN5.c2
                          have c3' := hN5.c3
                          have c4' := hN5.c4
                          have c5' := hN5.c5
                          have c6' := hN5.c6
                          have e1' := hX5.rows.out.cell hjk
                          have f1' := hX5.rows.out.frozen j
                          have e2' := hX5.rows.fz.cell hjk
                          have f2' := hX5.rows.fz.frozen j
                          have HX5 := Lib.hid hX5
                          clear hX5 hN5 hb1))
              clear hwi
              go_wp2_with fail
              go_roundw
              case rel =>
                refine ⟨j + 1, hjk, by go_num, ((HX5.out.setOut j wi).setFz j true).congr (fun x hx => ?_) (fun x hx => ?_)⟩
                · by_cases h : x = j
                  · rw [if_pos h, h, if_pos (Nat.lt_succ_self j), HE2.out, if_pos trivial]
                  · rw [if_neg h]; exact (HEQ.out x h).1
                · by_cases h : x = j
                  · rw [if_pos h, h, if_pos (Nat.lt_succ_self j), HE1.out]
                  · rw [if_neg h]; exact (HEQ.out x h).2
              case measure => simp [intOf]; omega
            | false =>
              rw [hz] at hst HE1 HE2
              clear hwi
              go_wp2_with fail
              refine hst.mono ?_; rintro e w3 ⟨rfl, hb3⟩
              have HX3 := Lib.hid (HX.out.then_ hb3)
              clear hb3 hst
              go_wp2_with fail
              go_roundw
              case rel =>
                refine ⟨j + 1, hjk, by go_num, HX3.out.congr (fun x hx => ?_) (fun x hx => ?_)⟩
                · by_cases h : x = j
                  · rw [h, if_neg (Nat.lt_irrefl j), if_pos (Nat.lt_succ_self j), HE2.out, if_neg (by simp)]
                  · exact (HEQ.out x h).1
                · by_cases h : x = j
                  · rw [h, if_neg (Nat.lt_irrefl j), if_pos (Nat.lt_succ_self j), HE1.out]
                  · exact (HEQ.out x h).2
              case measure => simp [intOf]; omega
          · obtain rfl : j = k := by omega
            have HX := Lib.hid (hX.congr (out' := (Fx.st0 M g).out) (fz' := (Fx.st0 M g).fz) (fun i hi => by rw [if_pos hi]) (fun i hi => by rw [if_pos hi]))
            clear hX
            go_wp2_with fail
            go_ret
            exact ⟨p, ao', cap', b1, b2, rfl, HX.out⟩

end Go.Proofs.Ytndpblgedpdjdaa
