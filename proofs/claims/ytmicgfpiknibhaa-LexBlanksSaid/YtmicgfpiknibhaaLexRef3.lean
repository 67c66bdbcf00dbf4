/- Strings: the reference's Quoted. -/
import Derived.Test.YtmicgfpiknibhaaLexRef2
import Derived.Test.YtmicgfpiknibhaaCellRes
import Derived.BigQuiet
namespace Go.Proofs.Ytmicgfpiknibhaa
open Go.RowKit
set_option linter.unusedSimpArgs false
set_option linter.unusedVariables false
attribute [local go_sem] cell?_ext frozen?_ext lt_size_ext

def strOf (l : List UInt8) : ByteArray := ⟨l.toArray⟩
theorem strOf_data (l : List UInt8) : (strOf l).data.toList = l := by simp [strOf]
theorem ext_str (s : ByteArray) (a b j : Nat) (h : b - a = j) : s.extract a b = strOf ((s.data.toList.drop a).take j) := Go.WideShapes.bytes_inj (by rw [ext_data, strOf_data, h])
def Tk.val (t : Tk) : Value := .agg #[.int .i64 (t.k : Int), .string (strOf t.x), .int .i64 t.n]

theorem quoted_end {q e : Nat} {t : List UInt8} (he : runL (qp q) t = e) (h : t.drop e = []) : quoted q t = (⟨5, t.take e, 0⟩, 1 + e) := by
  unfold quoted; dsimp only; rw [he, h]
theorem quoted_line {q e : Nat} {t u : List UInt8} {d : UInt8} (he : runL (qp q) t = e) (h : t.drop e = d :: u) (hd : d.toNat = 10) : quoted q t = (⟨6, t.take e, 0⟩, 1 + e) := by
  unfold quoted; dsimp only; rw [he, h]; exact if_pos hd
theorem quoted_shut {q e : Nat} {t u : List UInt8} {d : UInt8} (he : runL (qp q) t = e) (h : t.drop e = d :: u) (hd : ¬ d.toNat = 10) : quoted q t = (⟨5, t.take e, 0⟩, 2 + e) := by
  unfold quoted; dsimp only; rw [he, h]; exact if_neg hd

set_option maxHeartbeats 4000000 in
theorem RQuoted_any (s : ByteArray) (a : Nat) (ha : a < s.size) (hs : s.size ≤ maxLen) (w : World) :
    Calls Try.prog 47 #[.string s, .int .i64 a] w fun e w' => e = .returned (.tuple #[(quoted s[a].toNat (s.data.toList.drop (a + 1))).1.val, .int .i64 ((a + (quoted s[a].toNat (s.data.toList.drop (a + 1))).2 : Nat) : Int)]) ∧ Below w.heap.size w w' := by
  unfold maxLen at hs
  have h8 : s[a].toNat < 256 := s[a].toNat_lt
  obtain ⟨q, hq⟩ : ∃ q, q = s[a].toNat := ⟨_, rfl⟩
  rw [← hq]
  obtain ⟨Q, hQ⟩ : ∃ Q, Q = quoted q (s.data.toList.drop (a + 1)) := ⟨_, rfl⟩
  rw [← hQ]
  have HQ := Lib.hid hQ
  have HQQ := Lib.hid hq
  clear hQ hq
  go_enter Try.func47, Try.ntmps47
  go_upto_region 2 with fail
  go_loopw [6] (fun v6 wr => ∃ j m : Nat, m = a + 1 + j ∧ m ≤ s.size ∧ v6 = .int .i64 (m : Int) ∧ j + runL (qp q) (s.data.toList.drop m) = runL (qp q) (s.data.toList.drop (a + 1)) ∧ Blk wr w.heap.size 23 #[.int .i64 0, .string { data := #[] }, .int .i64 0] ∧ Below w.heap.size w wr) (fun v6 _ => s.size - (intOf v6).toNat)
  case atStart => exact ⟨0, a + 1, rfl, by omega, by simp, by simp, Blk.new _ _ _, below_alloc (Below.refl _ _) _⟩
  case round =>
    obtain ⟨j, m, hm, hj, rfl, hn, hbr, hb⟩ := hrel
    have HM := Lib.hid hm
    have hle : (a : Int) + 1 ≤ (m : Int) := by omega
    have HBR := Lib.hid hbr
    have HB := Lib.hid hb
    clear hbr hb
    by_cases hlt : m < s.size
    · have d0 : decide ((m : Int) < (s.size : Int)) = true := decide_eq_true (by omega)
      have hd := runL_at (qp q) s m hlt
      have h82 : s[m].toNat < 256 := s[m].toNat_lt
      have hdrop : (s.data.toList.drop (a + 1)).drop j = s[m] :: s.data.toList.drop (m + 1) := by rw [List.drop_drop, ← hm]; exact drop_at s m hlt
      by_cases h1 : s[m].toNat = q
      · have e1 : ((s[m].toNat : Int) == (s[a].toNat : Int)) = true := by rw [← HQQ.out, h1]; simp
        have f1 : ((s[m].toNat : Int) != (s[a].toNat : Int)) = false := by unfold bne; rw [e1]; rfl
        rw [if_neg (by simp [qp, h1])] at hd
        have hr : runL (qp q) (s.data.toList.drop (a + 1)) = j := by omega
        by_cases h2 : s[m].toNat = 10
        · have e2 : ((s[m].toNat : Int) == 10) = true := by rw [h2]; rfl
          have f2 : ((s[m].toNat : Int) != 10) = false := by unfold bne; rw [e2]; rfl
          have HE : Hid (Q = (⟨6, (s.data.toList.drop (a + 1)).take j, 0⟩, 1 + j)) := Lib.hid (by rw [HQ.out, quoted_line hr hdrop h2])
          clear h1 h2 hd hr hdrop hn hm
          go_upto_region 2 with fail
          refine wp_region_ext (by kernel_rfl) (by kernel_rfl) ?_
          repeat (go_big_quiet_step (fail))
          refine wpQuiet_nil ?_
          intro w2 hw2
          have hb2 := (grown_rules hw2).2.2.2
          have HBR2 := Lib.hid (HBR.out.then_ hb2)
          have HB2 := Lib.hid (below_then HB.out hb2)
          clear hw2 hb2
          have y0 : w2.cell? ⟨w.heap.size, 0, none⟩ = some (.int .i64 0) := HBR2.out.cell 0
          have y1 : w2.cell? ⟨w.heap.size, 1, none⟩ = some (.string { data := #[] }) := HBR2.out.cell 1
          have y2 : w2.cell? ⟨w.heap.size, 2, none⟩ = some (.int .i64 0) := HBR2.out.cell 2
          have z0 : w2.frozen? ⟨w.heap.size, 0, none⟩ = false := HBR2.out.frozen 0
          have z1 : w2.frozen? ⟨w.heap.size, 1, none⟩ = false := HBR2.out.frozen 1
          have z2 : w2.frozen? ⟨w.heap.size, 2, none⟩ = false := HBR2.out.frozen 2
          have zl := HBR2.out.lt
          go_wp2_with fail
          have hR : (m : Int) = ((a + (1 + j) : Nat) : Int) := by have := HM.out; omega
          exact bodyPost_ret (v := .tuple #[.agg #[.int .i64 6, .string (s.extract (a + 1) m), .int .i64 0], .int .i64 (m : Int)]) (results_cell_tmp rfl rfl rfl ((((HBR2.out.put 0 (.int .i64 6)).put 1 (.string (s.extract (a + 1) m))).put 2 (.int .i64 0)).alloc _) Try.underlying23 rfl (by kernel_rfl)) rfl
            ⟨by rw [HE.out, ext_str s (a + 1) m j (by have := HM.out; omega), hR]; rfl, below_alloc (below_set (below_set (below_set HB2.out (Nat.le_refl _) _) (Nat.le_refl _) _) (Nat.le_refl _) _) _⟩
        · have e2 : ((s[m].toNat : Int) == 10) = false := beq_false_of_ne (by omega)
          have f2 : ((s[m].toNat : Int) != 10) = true := by unfold bne; rw [e2]; rfl
          have HE : Hid (Q = (⟨5, (s.data.toList.drop (a + 1)).take j, 0⟩, 2 + j)) := Lib.hid (by rw [HQ.out, quoted_shut hr hdrop h2])
          clear h1 h2 hd hr hdrop hn hm
          go_upto_region 2 with fail
          refine wp_region_ext (by kernel_rfl) (by kernel_rfl) ?_
          repeat (go_big_quiet_step (fail))
          refine wpQuiet_nil ?_
          intro w2 hw2
          have hb2 := (grown_rules hw2).2.2.2
          have HBR2 := Lib.hid (HBR.out.then_ hb2)
          have HB2 := Lib.hid (below_then HB.out hb2)
          clear hw2 hb2
          have y0 : w2.cell? ⟨w.heap.size, 0, none⟩ = some (.int .i64 0) := HBR2.out.cell 0
          have y1 : w2.cell? ⟨w.heap.size, 1, none⟩ = some (.string { data := #[] }) := HBR2.out.cell 1
          have y2 : w2.cell? ⟨w.heap.size, 2, none⟩ = some (.int .i64 0) := HBR2.out.cell 2
          have z0 : w2.frozen? ⟨w.heap.size, 0, none⟩ = false := HBR2.out.frozen 0
          have z1 : w2.frozen? ⟨w.heap.size, 1, none⟩ = false := HBR2.out.frozen 1
          have z2 : w2.frozen? ⟨w.heap.size, 2, none⟩ = false := HBR2.out.frozen 2
          have zl := HBR2.out.lt
          go_wp2_with fail
          have hR : ((m : Int) + 1) = ((a + (2 + j) : Nat) : Int) := by have := HM.out; omega
          exact bodyPost_ret (v := .tuple #[.agg #[.int .i64 5, .string (s.extract (a + 1) m), .int .i64 0], .int .i64 ((m : Int) + 1)]) (results_cell_tmp rfl rfl rfl ((((HBR2.out.put 0 (.int .i64 5)).put 1 (.string (s.extract (a + 1) m))).put 2 (.int .i64 0)).alloc _) Try.underlying23 rfl (by kernel_rfl)) rfl
            ⟨by rw [HE.out, ext_str s (a + 1) m j (by have := HM.out; omega), hR]; rfl, below_alloc (below_set (below_set (below_set HB2.out (Nat.le_refl _) _) (Nat.le_refl _) _) (Nat.le_refl _) _) _⟩
      · have e1 : ((s[m].toNat : Int) == (s[a].toNat : Int)) = false := by rw [← HQQ.out]; exact beq_false_of_ne (by omega)
        have f1 : ((s[m].toNat : Int) != (s[a].toNat : Int)) = true := by unfold bne; rw [e1]; rfl
        by_cases h2 : s[m].toNat = 10
        · have e2 : ((s[m].toNat : Int) == 10) = true := by rw [h2]; rfl
          have f2 : ((s[m].toNat : Int) != 10) = false := by unfold bne; rw [e2]; rfl
          rw [if_neg (by simp [qp, h2])] at hd
          have hr : runL (qp q) (s.data.toList.drop (a + 1)) = j := by omega
          have HE : Hid (Q = (⟨6, (s.data.toList.drop (a + 1)).take j, 0⟩, 1 + j)) := Lib.hid (by rw [HQ.out, quoted_line hr hdrop h2])
          clear h1 h2 hd hr hdrop hn hm
          go_upto_region 2 with fail
          refine wp_region_ext (by kernel_rfl) (by kernel_rfl) ?_
          repeat (go_big_quiet_step (fail))
          refine wpQuiet_nil ?_
          intro w2 hw2
          have hb2 := (grown_rules hw2).2.2.2
          have HBR2 := Lib.hid (HBR.out.then_ hb2)
          have HB2 := Lib.hid (below_then HB.out hb2)
          clear hw2 hb2
          have y0 : w2.cell? ⟨w.heap.size, 0, none⟩ = some (.int .i64 0) := HBR2.out.cell 0
          have y1 : w2.cell? ⟨w.heap.size, 1, none⟩ = some (.string { data := #[] }) := HBR2.out.cell 1
          have y2 : w2.cell? ⟨w.heap.size, 2, none⟩ = some (.int .i64 0) := HBR2.out.cell 2
          have z0 : w2.frozen? ⟨w.heap.size, 0, none⟩ = false := HBR2.out.frozen 0
          have z1 : w2.frozen? ⟨w.heap.size, 1, none⟩ = false := HBR2.out.frozen 1
          have z2 : w2.frozen? ⟨w.heap.size, 2, none⟩ = false := HBR2.out.frozen 2
          have zl := HBR2.out.lt
          go_wp2_with fail
          have hR : (m : Int) = ((a + (1 + j) : Nat) : Int) := by have := HM.out; omega
          exact bodyPost_ret (v := .tuple #[.agg #[.int .i64 6, .string (s.extract (a + 1) m), .int .i64 0], .int .i64 (m : Int)]) (results_cell_tmp rfl rfl rfl ((((HBR2.out.put 0 (.int .i64 6)).put 1 (.string (s.extract (a + 1) m))).put 2 (.int .i64 0)).alloc _) Try.underlying23 rfl (by kernel_rfl)) rfl
            ⟨by rw [HE.out, ext_str s (a + 1) m j (by have := HM.out; omega), hR]; rfl, below_alloc (below_set (below_set (below_set HB2.out (Nat.le_refl _) _) (Nat.le_refl _) _) (Nat.le_refl _) _) _⟩
        · have e2 : ((s[m].toNat : Int) == 10) = false := beq_false_of_ne (by omega)
          have f2 : ((s[m].toNat : Int) != 10) = true := by unfold bne; rw [e2]; rfl
          rw [if_pos (by simp [qp, h1, h2])] at hd
          have HD := Lib.hid hd
          have HN := Lib.hid hn
          clear h1 h2 hd hdrop hn hm
          go_upto_region 2 with fail
          refine wp_region_ext (by kernel_rfl) (by kernel_rfl) ?_
          repeat (go_big_quiet_step (fail))
          refine wpQuiet_nil ?_
          intro w2 hw2
          have hb2 := (grown_rules hw2).2.2.2
          have HBR2 := Lib.hid (HBR.out.then_ hb2)
          have HB2 := Lib.hid (below_then HB.out hb2)
          clear hw2 hb2
          go_wp2_with fail
          go_roundw
          case rel => exact ⟨j + 1, m + 1, by have := HM.out; omega, by omega, by go_num, by have := HD.out; have := HN.out; omega, HBR2.out, HB2.out⟩
          case measure => (simp [intOf]; omega)
    · have d0 : decide ((m : Int) < (s.size : Int)) = false := decide_eq_false (by omega)
      have hdrop : (s.data.toList.drop (a + 1)).drop j = [] := by rw [List.drop_drop, ← hm]; exact drop_end s m (by omega)
      have hr : runL (qp q) (s.data.toList.drop (a + 1)) = j := by rw [runL_end (qp q) s m (by omega)] at hn; omega
      have e5 : ((m : Int) == (s.size : Int)) = true := by rw [show m = s.size by omega]; simp
      have HE : Hid (Q = (⟨5, (s.data.toList.drop (a + 1)).take j, 0⟩, 1 + j)) := Lib.hid (by rw [HQ.out, quoted_end hr hdrop])
      clear hr hdrop hn hm
      go_upto_region 2 with fail
      refine wp_region_ext (by kernel_rfl) (by kernel_rfl) ?_
      repeat (go_big_quiet_step (fail))
      refine wpQuiet_nil ?_
      intro w2 hw2
      have hb2 := (grown_rules hw2).2.2.2
      have HBR2 := Lib.hid (HBR.out.then_ hb2)
      have HB2 := Lib.hid (below_then HB.out hb2)
      clear hw2 hb2
      have y0 : w2.cell? ⟨w.heap.size, 0, none⟩ = some (.int .i64 0) := HBR2.out.cell 0
      have y1 : w2.cell? ⟨w.heap.size, 1, none⟩ = some (.string { data := #[] }) := HBR2.out.cell 1
      have y2 : w2.cell? ⟨w.heap.size, 2, none⟩ = some (.int .i64 0) := HBR2.out.cell 2
      have z0 : w2.frozen? ⟨w.heap.size, 0, none⟩ = false := HBR2.out.frozen 0
      have z1 : w2.frozen? ⟨w.heap.size, 1, none⟩ = false := HBR2.out.frozen 1
      have z2 : w2.frozen? ⟨w.heap.size, 2, none⟩ = false := HBR2.out.frozen 2
      have zl := HBR2.out.lt
      go_wp2_with fail
      have hR : (m : Int) = ((a + (1 + j) : Nat) : Int) := by have := HM.out; omega
      exact bodyPost_ret (v := .tuple #[.agg #[.int .i64 5, .string (s.extract (a + 1) m), .int .i64 0], .int .i64 (m : Int)]) (results_cell_tmp rfl rfl rfl ((((HBR2.out.put 0 (.int .i64 5)).put 1 (.string (s.extract (a + 1) m))).put 2 (.int .i64 0)).alloc _) Try.underlying23 rfl (by kernel_rfl)) rfl
        ⟨by rw [HE.out, ext_str s (a + 1) m j (by have := HM.out; omega), hR]; rfl, below_alloc (below_set (below_set (below_set HB2.out (Nat.le_refl _) _) (Nat.le_refl _) _) (Nat.le_refl _) _) _⟩

end Go.Proofs.Ytmicgfpiknibhaa
