/- The program's dealing of a total that is not below 0: the walk. -/
import Derived.Test.YtndpblgedpdjdaaDealt
namespace Go.Proofs.Ytndpblgedpdjdaa
open Go.Shelf Go.RowKit Go.Lib Go.Sort
set_option linter.unusedSimpArgs false
set_option linter.unusedVariables false

/-- A call hands back a new row of numbers; nothing that was there has turned. -/
def RowOut (w : World) (n : Nat) (f : Nat → Int) (e : Ending) (w' : World) : Prop :=
  ∃ o, e = .returned (.slice (some ⟨o, 0, none⟩) n n) ∧ w.heap.size ≤ o ∧ w'.rowIs o 3 n (fun i => .int .i64 (f i)) ∧ Below w.heap.size w w'

theorem cell_new2 (w : World) (p : Addr) (v : Value) (a b : Value) (t : TypeId) (j : Nat) : ((w.setCell p v).alloc (.cells #[a, b] t)).cell? ⟨w.heap.size, j, none⟩ = (#[a, b] : Array Value)[j]? := by
  have h := (Blk.new (w.setCell p v) t #[a, b]).cell j
  rw [show (w.setCell p v).heap.size = w.heap.size from by simp] at h
  exact h
theorem own_cap {w : World} {base g cap n : Nat} {e : TypeId} {size : Nat} {xs : List Value} (h : w.ownsRow base e size (.slice (some ⟨g, 0, none⟩) n cap) n xs) : n ≤ cap := by
  rcases h.2 with ⟨h0, _⟩ | ⟨g', cap', cur, hv, _, _, hc, _⟩
  · simp at h0
  · simp at hv; obtain ⟨-, rfl⟩ := hv; exact hc

theorem made_claims (n : Nat) (hn : n ≤ 1048576) (w : World) : (Instr.makeSlice 69 (.int .i64 0) (.int .i64 (n : Int))).run Try.prog w =
    .ok (.slice (some ⟨w.heap.size, 0, none⟩) 0 n) (w.alloc (.cells (madeCells #[.int .i64 0, .int .i64 0] (n * 2)) 71)) := by
  obtain ⟨i0, hi, hz0, hz1, hz2⟩ := info_parts claim_info
  have h := run_make (P := Try.prog) w 69 71 i0 _ Try.underlying69 hi hz0 .i64 .i64 0 n (Int.le_refl _) (by omega) (by rw [hz2]; omega) (by omega)
  rw [hz1] at h
  exact h

set_option maxHeartbeats 8000000 in
set_option maxRecDepth 1000000 in
theorem dealt_any (t S : Int) (n bw ow capw : Nat) (W : Nat → Int) (D : Deals t S n W) (w : World) (hN : Nums w bw ow n W) :
    Calls Try.prog 42 #[.int .i64 t, .int .i64 S, .slice (some ⟨bw, ow, none⟩) n capw] w (RowOut w n (Sh.dealt t S n W)) := by
  obtain ⟨i0, hi, hz0, hz1, hz2⟩ := info_parts claim_info
  have hmk := run_make_row' (P := Try.prog) 25 3 (.int .i64 0) 8 Try.underlying25 int_info rfl .i64 .i64 n (by have := D.n1; omega) (by have := D.n1; omega)
  have hmk2 := made_claims n D.n1
  have hn1 := D.n1
  have HD := Lib.hid D
  have HNN := Lib.hid hN
  have HS0 : S ≠ 0 := by have := D.S0; omega
  have hs0 := D.S0
  have hs1 := D.S1
  clear D hN
  go_enter Try.func42, Try.ntmps42
  go_wp2_with fail
  have hr0 : ((w.alloc (.cells (madeCells #[.int .i64 0] n) 3)).alloc (.cells (madeCells #[.int .i64 0, .int .i64 0] (n * 2)) 71)).rowIs w.heap.size 3 n (fun _ => .int .i64 0) := (World.rowIs_made w _ n _).alloc _
  have ho0 := World.ownsRow_made (base := w.heap.size) (e := 71) (size := 2) (w.alloc (.cells (madeCells #[.int .i64 0] n) 3)) (madeCells #[.int .i64 0, .int .i64 0] (n * 2)) n (by simp) (by unfold maxLen; omega) (size_madeCells _ _)
  rw [show (w.alloc (.cells (madeCells #[.int .i64 0] n) 3)).heap.size = w.heap.size + 1 from by simp] at ho0
  have HR0 := Lib.hid hr0
  have HO0 := Lib.hid ho0
  clear hmk hmk2 hr0 ho0
  go_loopw [8, 9, 23] (fun v8 v9 v23 wr => ∃ (k : Nat) (ao : Option Addr) (cap : Nat), v23 = .int .i64 k ∧ k ≤ n ∧ v8 = .int .i64 (Sh.left t S W k) ∧ v9 = .slice ao k cap ∧
      wr.ownsRow w.heap.size 71 2 (.slice ao k cap) k (cellsOf (Sh.rs t S W) k) ∧ (∀ g, (Value.slice ao k cap).ownBlock = some g → g ≠ w.heap.size) ∧
      wr.rowIs w.heap.size 3 n (fun i => .int .i64 (if i < k then Sh.q t S W i else 0)) ∧ Below w.heap.size w wr) (fun _ _ v23 _ => n - (intOf v23).toNat)
  case atStart =>
    refine ⟨0, _, n, rfl, Nat.zero_le _, by rw [left_none], rfl, HO0.out, ?_, HR0.out.congr (fun i hi => by simp), ((Below.refl _ w).alloc (Nat.le_refl _) _).alloc (by simp) _⟩
    intro g hg
    simp [Value.ownBlock] at hg
    omega
  case round =>
    obtain ⟨k, ao, cap, rfl, hk, rfl, rfl, hown, hne, hr, hb⟩ := hrel
    have hd := HD.out
    have hwr : w.heap.size < wr.heap.size := hr.lt
    by_cases hlt : k < n
    · have hmul := hd.mul hlt
      have hlk := hd.leftk (k := k) hk
      have hlk1 := hd.leftk (k := k + 1) hlt
      have hq0 := hd.q0 hlt
      have hq1 := hd.q1 hlt
      have hr0 := hd.rs0 k
      rw [left_succ] at hlk1
      have HSUC := Lib.hid (left_succ (t := t) (S := S) (W := W) k)
      have eq1 : Sh.q t S W k = t * W k / S := rfl
      have er1 : Sh.rs t S W k = t * W k % S := rfl
      rw [eq1] at hq0 hq1 hlk1
      rw [er1] at hr0
      have HQ := Lib.hid eq1
      have HRS := Lib.hid er1
      have c1 : wr.cell? ⟨bw, ow + k, none⟩ = some (.int .i64 (W k)) := (HNN.out.below hb).2 k hlt
      have fz := hr.frozen k
      have c6 := hr.cell hlt
      have hsn := Lib.hid (cellsOf_snoc (Sh.rs t S W) k)
      have HNE := Lib.hid hne
      have ho1 : (wr.setCell ⟨w.heap.size, k, none⟩ (.int .i64 (t * W k / S))).ownsRow w.heap.size 71 2 (.slice ao k cap) k (cellsOf (Sh.rs t S W) k) :=
        own_of_block hown (fun j hj => Below.heap_setCell _ _ _ j (hne j hj))
      have ho2 := Lib.hid (ho1.alloc (.cells #[.int .i64 k, .int .i64 (t * W k % S)] 71))
      have hnx : w.heap.size ≤ ((wr.setCell ⟨w.heap.size, k, none⟩ (.int .i64 (t * W k / S))).alloc (.cells #[.int .i64 k, .int .i64 (t * W k % S)] 71)).heap.size := by simp; omega
      have HNX := Lib.hid hnx
      have HR2 : Hid (((wr.setCell ⟨w.heap.size, k, none⟩ (.int .i64 (t * W k / S))).alloc (.cells #[.int .i64 k, .int .i64 (t * W k % S)] 71)).rowIs w.heap.size 3 n (fun j => if j = k then .int .i64 (t * W k / S) else .int .i64 (if j < k then Sh.q t S W j else 0))) := Lib.hid ((hr.set k _).alloc _)
      have HB2 : Hid (Below w.heap.size w ((wr.setCell ⟨w.heap.size, k, none⟩ (.int .i64 (t * W k / S))).alloc (.cells #[.int .i64 k, .int .i64 (t * W k % S)] 71))) := Lib.hid (below_alloc (below_set hb (Nat.le_refl _) _) _)
      clear hown hne hr hb hd ho1 hnx eq1 er1
      go_wp2_with ((at_builtin; refine wpList_append_own_at _ rfl (.tmp 42) (.tmp 50) _ rfl w.heap.size 71 i0 (.agg #[.int .i64 0, .int .i64 0]) 2 16 Try.underlying69 hi hz0 hz1 hz2 rfl (by decide) _ _ _ rfl ho2.out ⟨wr.heap.size, 0, none⟩ 1 1 [.int .i64 k, .int .i64 (t * W k % S)] rfl rfl ?c1 ?c2 ?c3 ?c4 HNX.out ?_))
      case c1 =>
        intro j u hj
        match j, hj with
        | 0, hj => simp at hj; subst hj; exact cell_new2 wr _ _ _ _ _ 0
        | 1, hj => simp at hj; subst hj; exact cell_new2 wr _ _ _ _ _ 1
        | j + 2, hj => simp at hj
      case c2 => intro u hu; simp at hu; rcases hu with rfl | rfl <;> rfl
      case c3 => unfold maxLen; omega
      case c4 => omega
      intro v' w3 hown3 hg3 _ hblk
      obtain ⟨r3, cap3, hv3, -, -⟩ := hown3.form (by omega)
      subst hv3
      have hlt3 := ho2.out.lt
      have hne3 : ∀ g, (Value.slice (some ⟨r3, 0, none⟩) (k + 1) cap3).ownBlock = some g → g ≠ w.heap.size := by
        intro g hg
        rcases hblk with e | e
        · rw [e] at hg; exact HNE.out g hg
        · rw [e] at hg; simp at hg; omega
      have hrow3 : some w.heap.size ≠ (Value.slice ao k cap).ownBlock := fun e => HNE.out _ e.symm rfl
      have hr3 := HR2.out.of_block (hg3.block w.heap.size HR2.out.lt hrow3)
      have hb3 : Below w.heap.size w w3 := HB2.out.grown hg3 HNX.out (fun j hj => (hlt3 j hj).1)
      rw [← HRS.out, ← hsn.out] at hown3
      have HO3 := Lib.hid hown3
      have HR3 := Lib.hid hr3
      have HB3 := Lib.hid hb3
      have HN3 := Lib.hid hne3
      clear hown3 hr3 hb3 hne3 hrow3 hlt3 hg3 hblk HNE
      go_wp2_with fail
      go_roundw
      case rel =>
        refine ⟨k + 1, some ⟨r3, 0, none⟩, cap3, by go_num, hlt, by rw [HSUC.out, HQ.out], rfl, HO3.out, HN3.out, HR3.out.congr (fun j hj => ?_), HB3.out⟩
        by_cases e : j = k
        · subst e; rw [if_pos rfl, if_pos (by omega), HQ.out]
        · rw [if_neg e]
          by_cases e2 : j < k
          · rw [if_pos e2, if_pos (by omega)]
          · rw [if_neg e2, if_neg (by omega)]
      case measure => simp [intOf]; omega
    · obtain rfl : k = n := by omega
      have hpos := hd.pos
      obtain ⟨g, cap', hv, -, -⟩ := hown.form hpos
      simp only [Value.slice.injEq, true_and] at hv
      obtain ⟨rfl, rfl⟩ := hv
      have hg := hne g (by simp [Value.ownBlock])
      have hg0 := (hown.lt g (by simp [Value.ownBlock])).1
      have R := row_of_own hown
      have HCAP := Lib.hid (own_cap hown)
      have hcall := ordered_any Lx_swo g 0 cap (claims (Sh.rs t S W) k) wr R (by rw [claims_size]; omega) (claims_agree hd)
      rw [claims_size] at hcall
      have HC := Lib.hid hcall
      have HR := Lib.hid hr
      have HB := Lib.hid hb
      have HRR := Lib.hid R
      clear hown hne hr hb hd hcall R
      go_wp2_with fail
      refine (HC.out).mono ?_
      rintro e w1 ⟨rfl, d', s1, p1, o1⟩
      obtain ⟨s, hsp, hss, hsa⟩ := claims_sorted (claims_size _ _) (fun i hi => claims_at _ _ _ hi) p1 o1
      have hsb := s1.below (B := g) (Nat.le_refl _) HRR.out.hblk
      have hr1 : w1.rowIs w.heap.size 3 k (fun i => .int .i64 (given t S W s 0 i)) :=
        (HR.out.of_block (hsb.block _ (by omega))).congr (fun i hi => by rw [if_pos hi, given_zero])
      have hH1 := s1.holds HRR.out.hblk HRR.out.hH (p1.1.trans (by rw [claims_size]))
      have hds : d'.size = k := p1.1.trans (claims_size _ _)
      have HS1 := Lib.hid s1
      have HP := Lib.hid hsp
      have HSS := Lib.hid hss
      have HSA := Lib.hid hsa
      have HR1 := Lib.hid hr1
      have HH1 := Lib.hid hH1
      have HDS := Lib.hid hds
      have hb1 : Below w.heap.size w w1 := HB.out.trans ⟨hsb.os, hsb.tape, hsb.output, hsb.size, fun j hj => hsb.block j (by omega)⟩
      have HB1 := Lib.hid hb1
      have hg1 : g < w1.heap.size := Nat.lt_of_lt_of_le HRR.out.hblk hsb.size
      clear s1 p1 o1 hsp hss hsa hr1 hH1 hds hb1 hsb HC
      obtain ⟨L, hL⟩ : ∃ L : Nat, Sh.left t S W k = L := ⟨(Sh.left t S W k).toNat, by have := HD.out.left0.1; omega⟩
      have hLn : L ≤ k := by have := HD.out.left0.2; omega
      rw [hL]
      have HL := Lib.hid hL
      have hform := HRR.out
      have hkcap : k ≤ cap := HCAP.out
      clear hL hform
      go_wp2_with fail
      go_loopw [59] (fun v59 wr => ∃ x : Nat, v59 = .int .i64 x ∧ x ≤ L ∧ Keeps (fun i => i = w.heap.size) w1 wr ∧ wr.rowIs w.heap.size 3 k (fun i => .int .i64 (given t S W s x i))) (fun v59 _ => L - (intOf v59).toNat)
      case atStart => exact ⟨0, rfl, Nat.zero_le _, Keeps.refl _ _, HR1.out⟩
      case round =>
        obtain ⟨x, rfl, hxL, hkp, hr⟩ := hrel
        by_cases hlt : x < L
        · obtain ⟨hsx, hyk, hdx⟩ := HSA.out x (by omega)
          obtain ⟨y, hy⟩ : ∃ y, y = (d'[x]!).1.toNat := ⟨_, rfl⟩
          rw [← hy] at hsx hyk hdx
          have hne : g ≠ w.heap.size := hg
          have q0 := (HH1.out.cell (i := x) (c := 0) (by rw [HDS.out]; omega) (by decide)).1
          have q1 := (HH1.out.cell (i := x) (c := 1) (by rw [HDS.out]; omega) (by decide)).1
          rw [hdx] at q0 q1
          have c1 : wr.cell? ⟨g, x * 2, none⟩ = some (.int .i64 y) := (hkp.cell (p := ⟨g, x * 2, none⟩) hg1 hne).trans (by rw [Nat.zero_add] at q0; exact q0)
          have c2 : wr.cell? ⟨g, x * 2 + 1, none⟩ = some (.int .i64 (Sh.rs t S W y)) := (hkp.cell (p := ⟨g, x * 2 + 1, none⟩) hg1 hne).trans (by rw [Nat.zero_add] at q1; exact q1)
          have fz := hr.frozen y
          have c6 := hr.cell hyk
          have g0 : 0 ≤ given t S W s x y := by have := HD.out.q0 hyk; unfold given; split <;> omega
          have g1 : given t S W s x y ≤ 1073741825 := by have := HD.out.q1 hyk; unfold given; split <;> omega
          have HST := Lib.hid (given_step (t := t) (S := S) (W := W) (HP.out.nodup_iff.2 List.nodup_range) hsx)
          have HK := Lib.hid hkp
          have HR := Lib.hid hr
          have hsz : w.heap.size < wr.heap.size := hr.lt
          clear hsx hdx hy hkp hr q0 q1
          go_wp2_with fail
          go_roundw
          case rel =>
            refine ⟨x + 1, by go_num, hlt, (HK.out.put (.inl rfl) _).alloc _, ((HR.out.set y _).alloc _).congr (fun i hi => ?_)⟩
            rw [HST.out i]
            split <;> rfl
          case measure => simp [intOf]; omega
        · obtain rfl : x = L := by omega
          have HK := Lib.hid hkp
          have HR := Lib.hid hr
          clear hkp hr
          go_wp2_with fail
          go_ret
          refine ⟨w.heap.size, rfl, Nat.le_refl _, HR.out.congr (fun i hi => ?_), HB1.out.trans (HK.out.toBelow HB1.out.size (fun j hj => by subst hj; exact Nat.le_refl _))⟩
          rw [given_all HP.out HSS.out HL.out i hi]

end Go.Proofs.Ytndpblgedpdjdaa
