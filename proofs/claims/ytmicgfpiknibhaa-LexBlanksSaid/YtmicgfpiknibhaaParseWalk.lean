/- The program's Parse: the walk. -/
import Derived.Test.YtmicgfpiknibhaaDigits
namespace Go.Proofs.Ytmicgfpiknibhaa
open Go.RowKit
set_option linter.unusedSimpArgs false
set_option linter.unusedVariables false

/-- What is read behind the sign. -/
def pread (l : List UInt8) (k : Nat) (below : Bool) : Int × Int :=
  let n := dgs (l.drop k)
  let W := wholeF ((l.drop k).take n) 0
  if dotted (l.drop (k + n)) = true then
    let m := dgs (l.drop (k + n + 1))
    let p := (partF ((l.drop (k + n + 1)).take m) (0, 100)).1
    if m = 0 ∨ k + n + 1 + m < l.length then (0, 10) else (if below = true then -hold (1000 * W + p) else hold (1000 * W + p), 0)
  else if n = 0 ∨ k + n < l.length then (0, 10) else (if below = true then -hold (1000 * W) else hold (1000 * W), 0)

theorem dotted_seen (s : ByteArray) (k : Nat) : dotted (s.data.toList.drop k) = seen s k 46 := by
  unfold seen
  by_cases h : k < s.size
  · rw [dif_pos h, drop_at s k h]; rfl
  · rw [dif_neg h, drop_end s k (by omega)]; rfl

/-- The memory of a Parse on its way. -/
structure Mem3 (w0 w : World) (r g h q : Nat) (s : ByteArray) (k : Nat) (a b c : Int) : Prop where
  rd : Rd w r s k
  g1 : Blk w g 3 #[.int .i64 a]
  h1 : Blk w h 3 #[.int .i64 b]
  q1 : Blk w q 3 #[.int .i64 c]
  bel : Below w0.heap.size w0 w
  r0 : w0.heap.size ≤ r
  rg : r < g
  gh : g < h
  hq : h < q

theorem sgn_seen (s : ByteArray) : sgn s.data.toList = if seen s 0 45 = true then 1 else if seen s 0 43 = true then 1 else 0 := by
  by_cases h : 0 < s.size
  · have e := drop_at s 0 h
    rw [List.drop_zero] at e
    unfold seen; rw [dif_pos h, dif_pos h, e]
    unfold sgn
    by_cases h1 : s[0].toNat = 45
    · simp [h1]
    · by_cases h2 : s[0].toNat = 43 <;> simp [h1, h2]
  · have e : s.data.toList = [] := List.length_eq_zero_iff.1 (by rw [len_data]; omega)
    unfold seen; rw [dif_neg h, dif_neg h, e]; rfl

theorem Mem3.step {w0 w w' : World} {r g h q : Nat} {s : ByteArray} {k k' : Nat} {a b c a' b' c' : Int} {X : Nat → Prop} (m : Mem3 w0 w r g h q s k a b c) (hk : Keeps X w w') (hX : ∀ i, X i → w0.heap.size ≤ i)
    (e1 : Rd w' r s k') (e2 : Blk w' g 3 #[.int .i64 a']) (e3 : Blk w' h 3 #[.int .i64 b']) (e4 : Blk w' q 3 #[.int .i64 c']) : Mem3 w0 w' r g h q s k' a' b' c' :=
  ⟨e1, e2, e3, e4, m.bel.trans (hk.toBelow m.bel.size hX), m.r0, m.rg, m.gh, m.hq⟩
theorem Mem3.start {w0 w : World} {r : Nat} {s : ByteArray} {k : Nat} (hb : Below w0.heap.size w0 w) (hr : Rd w r s k) (h0 : w0.heap.size ≤ r) :
    Mem3 w0 (((w.alloc (.cells #[.int .i64 0] 3)).alloc (.cells #[.int .i64 0] 3)).alloc (.cells #[.int .i64 100] 3)) r w.heap.size (w.heap.size + 1) (w.heap.size + 1 + 1) s k 0 0 100 := by
  refine ⟨((hr.alloc _).alloc _).alloc _, ((Blk.new w _ _).alloc _).alloc _, ?_, ?_, ((hb.alloc hb.size _).alloc ?_ _).alloc ?_ _, h0, hr.lt, by omega, by omega⟩
  · have := Blk.new (w.alloc (.cells #[.int .i64 0] 3)) 3 #[.int .i64 0]
    have := this.alloc (.cells #[.int .i64 100] 3)
    simpa using this
  · have := Blk.new ((w.alloc (.cells #[.int .i64 0] 3)).alloc (.cells #[.int .i64 0] 3)) 3 #[.int .i64 100]
    simpa using this
  · have := hb.size; simp; omega
  · have := hb.size; simp; omega

theorem pread_zero {l : List UInt8} {k n : Nat} {b : Bool} (hn : dgs (l.drop k) = n) (hd : dotted (l.drop (k + n)) = false) (h0 : n = 0 ∨ k + n < l.length) : pread l k b = (0, 10) := by
  unfold pread; simp only [hn, hd]; rw [if_neg (by simp), if_pos h0]
theorem pread_whole {l : List UInt8} {k n : Nat} {b : Bool} (hn : dgs (l.drop k) = n) (hd : dotted (l.drop (k + n)) = false) (h0 : ¬ n = 0) (h1 : ¬ k + n < l.length) :
    pread l k b = (if b = true then -hold (1000 * wholeF ((l.drop k).take n) 0) else hold (1000 * wholeF ((l.drop k).take n) 0), 0) := by
  unfold pread; simp only [hn, hd]; rw [if_neg (by simp), if_neg (by simp [h0]; omega)]
theorem pread_none {l : List UInt8} {k n m : Nat} {b : Bool} (hn : dgs (l.drop k) = n) (hd : dotted (l.drop (k + n)) = true) (hm : dgs (l.drop (k + n + 1)) = m) (h0 : m = 0 ∨ k + n + 1 + m < l.length) : pread l k b = (0, 10) := by
  unfold pread; simp only [hn, hd, hm]; rw [if_pos trivial, if_pos h0]
theorem pread_part {l : List UInt8} {k n m : Nat} {b : Bool} (hn : dgs (l.drop k) = n) (hd : dotted (l.drop (k + n)) = true) (hm : dgs (l.drop (k + n + 1)) = m) (h0 : ¬ m = 0) (h1 : ¬ k + n + 1 + m < l.length) :
    pread l k b = (if b = true then -hold (1000 * wholeF ((l.drop k).take n) 0 + (partF ((l.drop (k + n + 1)).take m) (0, 100)).1) else hold (1000 * wholeF ((l.drop k).take n) 0 + (partF ((l.drop (k + n + 1)).take m) (0, 100)).1), 0) := by
  unfold pread; simp only [hn, hd, hm]; rw [if_pos trivial, if_neg (by simp [h0]; omega)]
theorem seen_lt {s : ByteArray} {k c : Nat} (h : seen s k c = true) : k < s.size := by
  unfold seen at h
  by_cases hk : k < s.size
  · exact hk
  · rw [dif_neg hk] at h; cases h

set_option maxHeartbeats 8000000 in
theorem Parse_minus (s : ByteArray) (hs0 : s.size ≤ maxLen) (h45 : seen s 0 45 = true) (w : World) :
    Calls Try.prog 69 #[.string s] w fun e w' =>
      e = .returned (.tuple #[.int .i64 (pread s.data.toList 1 true).1, .int .i64 (pread s.data.toList 1 true).2]) ∧ Below w.heap.size w w' := by
  have hs := hs0
  unfold maxLen at hs
  have hrd : Rd (w.alloc (.cells #[.string s, .int .i64 0] 84)) w.heap.size s 0 := Blk.new _ _ _
  have hc := fun w1 h => sees_any s w.heap.size 0 45 w1 hs0 (Nat.zero_le _) h
  rw [h45] at hc
  have HC := Lib.hid hc
  have HR := Lib.hid hrd
  clear hrd hc
  go_enter Try.func69, Try.ntmps69
  go_wp2_with fail
  refine (HC.out _ HR.out).mono ?_
  rintro e w2 ⟨rfl, hr2, hk2⟩
  have hw2 : Below w.heap.size w w2 := ((Below.refl _ w).alloc (Nat.le_refl _) _).trans (hk2.toBelow (by simp) (fun i hi => by subst hi; exact Nat.le_refl _))
  have hm3 : Mem3 w _ w.heap.size _ _ _ s 1 0 0 100 := Mem3.start hw2 hr2 (Nat.le_refl _)
  have HM3 := Lib.hid hm3
  have hle : 1 ≤ s.size := by have := seen_lt h45; omega
  clear hr2 hw2 hk2 hm3
  go_wp2_with fail
  refine (digits_whole s w.heap.size 1 _ 0 _ hs0 hle (by have := HM3.out.rg; omega) (by decide) (by decide) HM3.out.rd HM3.out.g1).mono ?_
  rintro e w4 ⟨rfl, hr4, hg4, hk4⟩
  have hin := dgs_drop s 1 hle
  have hW := wholeF_bd ((s.data.toList.drop 1).take (dgs (s.data.toList.drop 1))) 0 (dgs_take _) (by decide) (by decide)
  have hm4 : Mem3 w w4 _ _ _ _ s _ _ 0 100 := HM3.out.step hk4 (by
      rintro i (rfl | rfl)
      · exact HM3.out.r0
      · have := HM3.out.r0; have := HM3.out.rg; omega) hr4 hg4
    (HM3.out.h1.of_kept (hk4.block _ HM3.out.h1.lt (by have := HM3.out.rg; have := HM3.out.gh; omega))) (HM3.out.q1.of_kept (hk4.block _ HM3.out.q1.lt (by have := HM3.out.rg; have := HM3.out.gh; have := HM3.out.hq; omega)))
  generalize hn : dgs (s.data.toList.drop 1) = n at *
  generalize hWW : wholeF ((s.data.toList.drop 1).take n) 0 = W at *
  have HM4 := Lib.hid hm4
  have HN := Lib.hid hn
  have HWW := Lib.hid hWW
  clear hr4 hg4 hk4 hm4 hn hWW
  have hc := fun w1 h => sees_any s w.heap.size (1 + n) 46 w1 hs0 hin h
  by_cases hd : seen s (1 + n) 46 = true
  · have hlt := seen_lt hd
    rw [hd] at hc
    have HC5 := Lib.hid hc
    have HD : Hid (dotted (s.data.toList.drop (1 + n)) = true) := Lib.hid ((dotted_seen s _).trans hd)
    clear hc hd
    go_wp2_with fail
    refine (HC5.out _ HM4.out.rd).mono ?_
    rintro e w5 ⟨rfl, hr5, hk5⟩
    simp only [if_true] at hr5
    have hm5 : Mem3 w w5 _ _ _ _ s _ W 0 100 := HM4.out.step hk5 (by rintro i rfl; exact HM4.out.r0) hr5 (HM4.out.g1.of_kept (hk5.block _ HM4.out.g1.lt (by have := HM4.out.rg; omega)))
      (HM4.out.h1.of_kept (hk5.block _ HM4.out.h1.lt (by have := HM4.out.rg; have := HM4.out.gh; omega))) (HM4.out.q1.of_kept (hk5.block _ HM4.out.q1.lt (by have := HM4.out.rg; have := HM4.out.gh; have := HM4.out.hq; omega)))
    have HM5 := Lib.hid hm5
    clear hr5 hk5 hm5
    go_wp2_with fail
    refine (digits_part s w.heap.size (1 + n + 1) _ _ 0 100 _ hs0 (by omega) (by have := HM5.out.rg; omega) (by have := HM5.out.rg; have := HM5.out.gh; omega) (by have := HM5.out.hq; omega) (by decide) (by decide) (by decide) (by decide) HM5.out.rd HM5.out.h1 HM5.out.q1).mono ?_
    rintro e w6 ⟨rfl, hr6, ⟨hg6, hh6⟩, hk6⟩
    have hin2 := dgs_drop s (1 + n + 1) (by omega)
    have hP := partF_bd ((s.data.toList.drop (1 + n + 1)).take (dgs (s.data.toList.drop (1 + n + 1)))) 0 100 (dgs_take _) (by decide) (by decide) (by decide) (by decide)
    have hm6 : Mem3 w w6 _ _ _ _ s _ W _ _ := HM5.out.step hk6 (by
        rintro i (rfl | rfl | rfl)
        · exact HM5.out.r0
        · have := HM5.out.r0; have := HM5.out.rg; have := HM5.out.gh; omega
        · have := HM5.out.r0; have := HM5.out.rg; have := HM5.out.gh; have := HM5.out.hq; omega) hr6
      (HM5.out.g1.of_kept (hk6.block _ HM5.out.g1.lt (by have := HM5.out.rg; have := HM5.out.gh; have := HM5.out.hq; omega))) hg6 hh6
    generalize hm : dgs (s.data.toList.drop (1 + n + 1)) = m at *
    generalize hPP : partF ((s.data.toList.drop (1 + n + 1)).take m) (0, 100) = P at *
    have HM6 := Lib.hid hm6
    have HM := Lib.hid hm
    have HPP := Lib.hid hPP
    clear hr6 hg6 hh6 hk6 hm6 hm hPP
    by_cases h0 : m = 0
    · have hz : ((m : Nat) : Int) = 0 := by omega
      have hz' : (((m : Nat) : Int) == 0) = true := by simp [hz]
      have HP := Lib.hid (pread_none (b := true) HN.out HD.out HM.out (.inl h0))
      go_wp2_with fail
      refine bodyPost_ret (v := .tuple #[.int .i64 0, .int .i64 10]) (by simp [results, Try.results69, go_sem]) rfl ⟨?_, HM6.out.bel⟩
      rw [HP.out]
    · have hz' : (((m : Nat) : Int) == 0) = false := by simp; omega
      have c1 : w6.cell? ⟨w.heap.size, 1, none⟩ = some (.int .i64 ((1 + n + 1 + m : Nat) : Int)) := HM6.out.rd.cell 1
      have cg := HM6.out.g1.cell 0
      have ch := HM6.out.h1.cell 0
      simp only [List.getElem?_toArray, List.getElem?_cons_zero] at cg ch
      have zr := HM6.out.rd.lt
      have zg := HM6.out.g1.lt
      have zh := HM6.out.h1.lt
      by_cases h1 : 1 + n + 1 + m < s.size
      · have HP := Lib.hid (pread_none (b := true) HN.out HD.out HM.out (.inr (by rw [len_data]; exact h1)))
        go_wp2_with fail
        refine bodyPost_ret (v := .tuple #[.int .i64 0, .int .i64 10]) (by simp [results, Try.results69, go_sem]) rfl ⟨?_, HM6.out.bel⟩
        rw [HP.out]
      · have HP := Lib.hid (pread_part (b := true) HN.out HD.out HM.out h0 (by rw [len_data]; exact h1))
        have hh := hold_bd (1000 * W + P.1)
        go_wp2_with fail
        refine (Hold_any _ _).mono ?_; rintro e w' ⟨rfl, rfl⟩
        go_wp2_with fail
        refine bodyPost_ret (v := .tuple #[.int .i64 (-hold (1000 * W + P.1)), .int .i64 0]) (by simp [results, Try.results69, go_sem]) rfl ⟨?_, HM6.out.bel⟩
        rw [HP.out, HWW.out, HPP.out]; simp only [if_true, if_false, Bool.false_eq_true]

  · have hd : seen s (1 + n) 46 = false := by simpa using hd
    rw [hd] at hc
    have HC5 := Lib.hid hc
    have HD : Hid (dotted (s.data.toList.drop (1 + n)) = false) := Lib.hid ((dotted_seen s _).trans hd)
    clear hc hd
    go_wp2_with fail
    refine (HC5.out _ HM4.out.rd).mono ?_
    rintro e w5 ⟨rfl, hr5, hk5⟩
    simp only [if_false, Bool.false_eq_true] at hr5
    have hm5 : Mem3 w w5 _ _ _ _ s _ W 0 100 := HM4.out.step hk5 (by rintro i rfl; exact HM4.out.r0) hr5 (HM4.out.g1.of_kept (hk5.block _ HM4.out.g1.lt (by have := HM4.out.rg; omega)))
      (HM4.out.h1.of_kept (hk5.block _ HM4.out.h1.lt (by have := HM4.out.rg; have := HM4.out.gh; omega))) (HM4.out.q1.of_kept (hk5.block _ HM4.out.q1.lt (by have := HM4.out.rg; have := HM4.out.gh; have := HM4.out.hq; omega)))
    have HM5 := Lib.hid hm5
    clear hr5 hk5 hm5
    by_cases h0 : n = 0
    · have hz : ((n : Nat) : Int) = 0 := by omega
      have hz' : (((n : Nat) : Int) == 0) = true := by simp [hz]
      have HP := Lib.hid (pread_zero (b := true) HN.out HD.out (.inl h0))
      go_wp2_with fail
      refine bodyPost_ret (v := .tuple #[.int .i64 0, .int .i64 10]) (by simp [results, Try.results69, go_sem]) rfl ⟨?_, HM5.out.bel⟩
      rw [HP.out]
    · have hz' : (((n : Nat) : Int) == 0) = false := by simp; omega
      have c1 : w5.cell? ⟨w.heap.size, 1, none⟩ = some (.int .i64 ((1 + n : Nat) : Int)) := HM5.out.rd.cell 1
      have cg := HM5.out.g1.cell 0
      have ch := HM5.out.h1.cell 0
      simp only [List.getElem?_toArray, List.getElem?_cons_zero] at cg ch
      have zr := HM5.out.rd.lt
      have zg := HM5.out.g1.lt
      have zh := HM5.out.h1.lt
      by_cases h1 : 1 + n < s.size
      · have HP := Lib.hid (pread_zero (b := true) HN.out HD.out (.inr (by rw [len_data]; exact h1)))
        go_wp2_with fail
        refine bodyPost_ret (v := .tuple #[.int .i64 0, .int .i64 10]) (by simp [results, Try.results69, go_sem]) rfl ⟨?_, HM5.out.bel⟩
        rw [HP.out]
      · have HP := Lib.hid (pread_whole (b := true) HN.out HD.out h0 (by rw [len_data]; exact h1))
        have hh := hold_bd (1000 * W)
        go_wp2_with fail
        refine (Hold_any _ _).mono ?_; rintro e w' ⟨rfl, rfl⟩
        go_wp2_with fail
        refine bodyPost_ret (v := .tuple #[.int .i64 (-hold (1000 * W)), .int .i64 0]) (by simp [results, Try.results69, go_sem]) rfl ⟨?_, HM5.out.bel⟩
        rw [HP.out, HWW.out]; simp only [if_true, if_false, Bool.false_eq_true]

set_option maxHeartbeats 8000000 in
theorem Parse_plus (s : ByteArray) (hs0 : s.size ≤ maxLen) (h45 : seen s 0 45 = false) (h43 : seen s 0 43 = true) (w : World) :
    Calls Try.prog 69 #[.string s] w fun e w' =>
      e = .returned (.tuple #[.int .i64 (pread s.data.toList 1 false).1, .int .i64 (pread s.data.toList 1 false).2]) ∧ Below w.heap.size w w' := by
  have hs := hs0
  unfold maxLen at hs
  have hrd : Rd (w.alloc (.cells #[.string s, .int .i64 0] 84)) w.heap.size s 0 := Blk.new _ _ _
  have hc := fun w1 h => sees_any s w.heap.size 0 45 w1 hs0 (Nat.zero_le _) h
  rw [h45] at hc
  have HC := Lib.hid hc
  have HR := Lib.hid hrd
  clear hrd hc
  go_enter Try.func69, Try.ntmps69
  go_wp2_with fail
  refine (HC.out _ HR.out).mono ?_
  rintro e w2 ⟨rfl, hr2, hk2⟩
  have hw2 : Below w.heap.size w w2 := ((Below.refl _ w).alloc (Nat.le_refl _) _).trans (hk2.toBelow (by simp) (fun i hi => by subst hi; exact Nat.le_refl _))
  simp only [if_false, Bool.false_eq_true] at hr2
  have HR2 := Lib.hid hr2
  have HW2 := Lib.hid hw2
  have hc := fun w1 h => sees_any s w.heap.size 0 43 w1 hs0 (Nat.zero_le _) h
  rw [h43] at hc
  have HC2 := Lib.hid hc
  clear hr2 hw2 hk2 hc
  go_wp2_with fail
  refine (HC2.out _ HR2.out).mono ?_
  rintro e w3 ⟨rfl, hr3, hk3⟩
  have hw3 : Below w.heap.size w w3 := HW2.out.trans (hk3.toBelow HW2.out.size (fun i hi => by subst hi; exact Nat.le_refl _))
  simp only [if_true] at hr3
  have hm3 : Mem3 w _ w.heap.size _ _ _ s 1 0 0 100 := Mem3.start hw3 hr3 (Nat.le_refl _)
  have HM3 := Lib.hid hm3
  have hle : 1 ≤ s.size := by have := seen_lt h43; omega
  clear hr3 hw3 hk3 hm3
  go_wp2_with fail
  refine (digits_whole s w.heap.size 1 _ 0 _ hs0 hle (by have := HM3.out.rg; omega) (by decide) (by decide) HM3.out.rd HM3.out.g1).mono ?_
  rintro e w4 ⟨rfl, hr4, hg4, hk4⟩
  have hin := dgs_drop s 1 hle
  have hW := wholeF_bd ((s.data.toList.drop 1).take (dgs (s.data.toList.drop 1))) 0 (dgs_take _) (by decide) (by decide)
  have hm4 : Mem3 w w4 _ _ _ _ s _ _ 0 100 := HM3.out.step hk4 (by
      rintro i (rfl | rfl)
      · exact HM3.out.r0
      · have := HM3.out.r0; have := HM3.out.rg; omega) hr4 hg4
    (HM3.out.h1.of_kept (hk4.block _ HM3.out.h1.lt (by have := HM3.out.rg; have := HM3.out.gh; omega))) (HM3.out.q1.of_kept (hk4.block _ HM3.out.q1.lt (by have := HM3.out.rg; have := HM3.out.gh; have := HM3.out.hq; omega)))
  generalize hn : dgs (s.data.toList.drop 1) = n at *
  generalize hWW : wholeF ((s.data.toList.drop 1).take n) 0 = W at *
  have HM4 := Lib.hid hm4
  have HN := Lib.hid hn
  have HWW := Lib.hid hWW
  clear hr4 hg4 hk4 hm4 hn hWW
  have hc := fun w1 h => sees_any s w.heap.size (1 + n) 46 w1 hs0 hin h
  by_cases hd : seen s (1 + n) 46 = true
  · have hlt := seen_lt hd
    rw [hd] at hc
    have HC5 := Lib.hid hc
    have HD : Hid (dotted (s.data.toList.drop (1 + n)) = true) := Lib.hid ((dotted_seen s _).trans hd)
    clear hc hd
    go_wp2_with fail
    refine (HC5.out _ HM4.out.rd).mono ?_
    rintro e w5 ⟨rfl, hr5, hk5⟩
    simp only [if_true] at hr5
    have hm5 : Mem3 w w5 _ _ _ _ s _ W 0 100 := HM4.out.step hk5 (by rintro i rfl; exact HM4.out.r0) hr5 (HM4.out.g1.of_kept (hk5.block _ HM4.out.g1.lt (by have := HM4.out.rg; omega)))
      (HM4.out.h1.of_kept (hk5.block _ HM4.out.h1.lt (by have := HM4.out.rg; have := HM4.out.gh; omega))) (HM4.out.q1.of_kept (hk5.block _ HM4.out.q1.lt (by have := HM4.out.rg; have := HM4.out.gh; have := HM4.out.hq; omega)))
    have HM5 := Lib.hid hm5
    clear hr5 hk5 hm5
    go_wp2_with fail
    refine (digits_part s w.heap.size (1 + n + 1) _ _ 0 100 _ hs0 (by omega) (by have := HM5.out.rg; omega) (by have := HM5.out.rg; have := HM5.out.gh; omega) (by have := HM5.out.hq; omega) (by decide) (by decide) (by decide) (by decide) HM5.out.rd HM5.out.h1 HM5.out.q1).mono ?_
    rintro e w6 ⟨rfl, hr6, ⟨hg6, hh6⟩, hk6⟩
    have hin2 := dgs_drop s (1 + n + 1) (by omega)
    have hP := partF_bd ((s.data.toList.drop (1 + n + 1)).take (dgs (s.data.toList.drop (1 + n + 1)))) 0 100 (dgs_take _) (by decide) (by decide) (by decide) (by decide)
    have hm6 : Mem3 w w6 _ _ _ _ s _ W _ _ := HM5.out.step hk6 (by
        rintro i (rfl | rfl | rfl)
        · exact HM5.out.r0
        · have := HM5.out.r0; have := HM5.out.rg; have := HM5.out.gh; omega
        · have := HM5.out.r0; have := HM5.out.rg; have := HM5.out.gh; have := HM5.out.hq; omega) hr6
      (HM5.out.g1.of_kept (hk6.block _ HM5.out.g1.lt (by have := HM5.out.rg; have := HM5.out.gh; have := HM5.out.hq; omega))) hg6 hh6
    generalize hm : dgs (s.data.toList.drop (1 + n + 1)) = m at *
    generalize hPP : partF ((s.data.toList.drop (1 + n + 1)).take m) (0, 100) = P at *
    have HM6 := Lib.hid hm6
    have HM := Lib.hid hm
    have HPP := Lib.hid hPP
    clear hr6 hg6 hh6 hk6 hm6 hm hPP
    by_cases h0 : m = 0
    · have hz : ((m : Nat) : Int) = 0 := by omega
      have hz' : (((m : Nat) : Int) == 0) = true := by simp [hz]
      have HP := Lib.hid (pread_none (b := false) HN.out HD.out HM.out (.inl h0))
      go_wp2_with fail
      refine bodyPost_ret (v := .tuple #[.int .i64 0, .int .i64 10]) (by simp [results, Try.results69, go_sem]) rfl ⟨?_, HM6.out.bel⟩
      rw [HP.out]
    · have hz' : (((m : Nat) : Int) == 0) = false := by simp; omega
      have c1 : w6.cell? ⟨w.heap.size, 1, none⟩ = some (.int .i64 ((1 + n + 1 + m : Nat) : Int)) := HM6.out.rd.cell 1
      have cg := HM6.out.g1.cell 0
      have ch := HM6.out.h1.cell 0
      simp only [List.getElem?_toArray, List.getElem?_cons_zero] at cg ch
      have zr := HM6.out.rd.lt
      have zg := HM6.out.g1.lt
      have zh := HM6.out.h1.lt
      by_cases h1 : 1 + n + 1 + m < s.size
      · have HP := Lib.hid (pread_none (b := false) HN.out HD.out HM.out (.inr (by rw [len_data]; exact h1)))
        go_wp2_with fail
        refine bodyPost_ret (v := .tuple #[.int .i64 0, .int .i64 10]) (by simp [results, Try.results69, go_sem]) rfl ⟨?_, HM6.out.bel⟩
        rw [HP.out]
      · have HP := Lib.hid (pread_part (b := false) HN.out HD.out HM.out h0 (by rw [len_data]; exact h1))
        have hh := hold_bd (1000 * W + P.1)
        go_wp2_with fail
        refine (Hold_any _ _).mono ?_; rintro e w' ⟨rfl, rfl⟩
        go_wp2_with fail
        refine bodyPost_ret (v := .tuple #[.int .i64 (hold (1000 * W + P.1)), .int .i64 0]) (by simp [results, Try.results69, go_sem]) rfl ⟨?_, HM6.out.bel⟩
        rw [HP.out, HWW.out, HPP.out]; simp only [if_true, if_false, Bool.false_eq_true]

  · have hd : seen s (1 + n) 46 = false := by simpa using hd
    rw [hd] at hc
    have HC5 := Lib.hid hc
    have HD : Hid (dotted (s.data.toList.drop (1 + n)) = false) := Lib.hid ((dotted_seen s _).trans hd)
    clear hc hd
    go_wp2_with fail
    refine (HC5.out _ HM4.out.rd).mono ?_
    rintro e w5 ⟨rfl, hr5, hk5⟩
    simp only [if_false, Bool.false_eq_true] at hr5
    have hm5 : Mem3 w w5 _ _ _ _ s _ W 0 100 := HM4.out.step hk5 (by rintro i rfl; exact HM4.out.r0) hr5 (HM4.out.g1.of_kept (hk5.block _ HM4.out.g1.lt (by have := HM4.out.rg; omega)))
      (HM4.out.h1.of_kept (hk5.block _ HM4.out.h1.lt (by have := HM4.out.rg; have := HM4.out.gh; omega))) (HM4.out.q1.of_kept (hk5.block _ HM4.out.q1.lt (by have := HM4.out.rg; have := HM4.out.gh; have := HM4.out.hq; omega)))
    have HM5 := Lib.hid hm5
    clear hr5 hk5 hm5
    by_cases h0 : n = 0
    · have hz : ((n : Nat) : Int) = 0 := by omega
      have hz' : (((n : Nat) : Int) == 0) = true := by simp [hz]
      have HP := Lib.hid (pread_zero (b := false) HN.out HD.out (.inl h0))
      go_wp2_with fail
      refine bodyPost_ret (v := .tuple #[.int .i64 0, .int .i64 10]) (by simp [results, Try.results69, go_sem]) rfl ⟨?_, HM5.out.bel⟩
      rw [HP.out]
    · have hz' : (((n : Nat) : Int) == 0) = false := by simp; omega
      have c1 : w5.cell? ⟨w.heap.size, 1, none⟩ = some (.int .i64 ((1 + n : Nat) : Int)) := HM5.out.rd.cell 1
      have cg := HM5.out.g1.cell 0
      have ch := HM5.out.h1.cell 0
      simp only [List.getElem?_toArray, List.getElem?_cons_zero] at cg ch
      have zr := HM5.out.rd.lt
      have zg := HM5.out.g1.lt
      have zh := HM5.out.h1.lt
      by_cases h1 : 1 + n < s.size
      · have HP := Lib.hid (pread_zero (b := false) HN.out HD.out (.inr (by rw [len_data]; exact h1)))
        go_wp2_with fail
        refine bodyPost_ret (v := .tuple #[.int .i64 0, .int .i64 10]) (by simp [results, Try.results69, go_sem]) rfl ⟨?_, HM5.out.bel⟩
        rw [HP.out]
      · have HP := Lib.hid (pread_whole (b := false) HN.out HD.out h0 (by rw [len_data]; exact h1))
        have hh := hold_bd (1000 * W)
        go_wp2_with fail
        refine (Hold_any _ _).mono ?_; rintro e w' ⟨rfl, rfl⟩
        go_wp2_with fail
        refine bodyPost_ret (v := .tuple #[.int .i64 (hold (1000 * W)), .int .i64 0]) (by simp [results, Try.results69, go_sem]) rfl ⟨?_, HM5.out.bel⟩
        rw [HP.out, HWW.out]; simp only [if_true, if_false, Bool.false_eq_true]

set_option maxHeartbeats 8000000 in
theorem Parse_bare (s : ByteArray) (hs0 : s.size ≤ maxLen) (h45 : seen s 0 45 = false) (h43 : seen s 0 43 = false) (w : World) :
    Calls Try.prog 69 #[.string s] w fun e w' =>
      e = .returned (.tuple #[.int .i64 (pread s.data.toList 0 false).1, .int .i64 (pread s.data.toList 0 false).2]) ∧ Below w.heap.size w w' := by
  have hs := hs0
  unfold maxLen at hs
  have hrd : Rd (w.alloc (.cells #[.string s, .int .i64 0] 84)) w.heap.size s 0 := Blk.new _ _ _
  have hc := fun w1 h => sees_any s w.heap.size 0 45 w1 hs0 (Nat.zero_le _) h
  rw [h45] at hc
  have HC := Lib.hid hc
  have HR := Lib.hid hrd
  clear hrd hc
  go_enter Try.func69, Try.ntmps69
  go_wp2_with fail
  refine (HC.out _ HR.out).mono ?_
  rintro e w2 ⟨rfl, hr2, hk2⟩
  have hw2 : Below w.heap.size w w2 := ((Below.refl _ w).alloc (Nat.le_refl _) _).trans (hk2.toBelow (by simp) (fun i hi => by subst hi; exact Nat.le_refl _))
  simp only [if_false, Bool.false_eq_true] at hr2
  have HR2 := Lib.hid hr2
  have HW2 := Lib.hid hw2
  have hc := fun w1 h => sees_any s w.heap.size 0 43 w1 hs0 (Nat.zero_le _) h
  rw [h43] at hc
  have HC2 := Lib.hid hc
  clear hr2 hw2 hk2 hc
  go_wp2_with fail
  refine (HC2.out _ HR2.out).mono ?_
  rintro e w3 ⟨rfl, hr3, hk3⟩
  have hw3 : Below w.heap.size w w3 := HW2.out.trans (hk3.toBelow HW2.out.size (fun i hi => by subst hi; exact Nat.le_refl _))
  simp only [if_false, Bool.false_eq_true] at hr3
  have hm3 : Mem3 w _ w.heap.size _ _ _ s 0 0 0 100 := Mem3.start hw3 hr3 (Nat.le_refl _)
  have HM3 := Lib.hid hm3
  have hle : 0 ≤ s.size := Nat.zero_le _
  clear hr3 hw3 hk3 hm3
  go_wp2_with fail
  refine (digits_whole s w.heap.size 0 _ 0 _ hs0 hle (by have := HM3.out.rg; omega) (by decide) (by decide) HM3.out.rd HM3.out.g1).mono ?_
  rintro e w4 ⟨rfl, hr4, hg4, hk4⟩
  have hin := dgs_drop s 0 hle
  have hW := wholeF_bd ((s.data.toList.drop 0).take (dgs (s.data.toList.drop 0))) 0 (dgs_take _) (by decide) (by decide)
  have hm4 : Mem3 w w4 _ _ _ _ s _ _ 0 100 := HM3.out.step hk4 (by
      rintro i (rfl | rfl)
      · exact HM3.out.r0
      · have := HM3.out.r0; have := HM3.out.rg; omega) hr4 hg4
    (HM3.out.h1.of_kept (hk4.block _ HM3.out.h1.lt (by have := HM3.out.rg; have := HM3.out.gh; omega))) (HM3.out.q1.of_kept (hk4.block _ HM3.out.q1.lt (by have := HM3.out.rg; have := HM3.out.gh; have := HM3.out.hq; omega)))
  generalize hn : dgs (s.data.toList.drop 0) = n at *
  generalize hWW : wholeF ((s.data.toList.drop 0).take n) 0 = W at *
  have HM4 := Lib.hid hm4
  have HN := Lib.hid hn
  have HWW := Lib.hid hWW
  clear hr4 hg4 hk4 hm4 hn hWW
  have hc := fun w1 h => sees_any s w.heap.size (0 + n) 46 w1 hs0 hin h
  by_cases hd : seen s (0 + n) 46 = true
  · have hlt := seen_lt hd
    rw [hd] at hc
    have HC5 := Lib.hid hc
    have HD : Hid (dotted (s.data.toList.drop (0 + n)) = true) := Lib.hid ((dotted_seen s _).trans hd)
    clear hc hd
    go_wp2_with fail
    refine (HC5.out _ HM4.out.rd).mono ?_
    rintro e w5 ⟨rfl, hr5, hk5⟩
    simp only [if_true] at hr5
    have hm5 : Mem3 w w5 _ _ _ _ s _ W 0 100 := HM4.out.step hk5 (by rintro i rfl; exact HM4.out.r0) hr5 (HM4.out.g1.of_kept (hk5.block _ HM4.out.g1.lt (by have := HM4.out.rg; omega)))
      (HM4.out.h1.of_kept (hk5.block _ HM4.out.h1.lt (by have := HM4.out.rg; have := HM4.out.gh; omega))) (HM4.out.q1.of_kept (hk5.block _ HM4.out.q1.lt (by have := HM4.out.rg; have := HM4.out.gh; have := HM4.out.hq; omega)))
    have HM5 := Lib.hid hm5
    clear hr5 hk5 hm5
    go_wp2_with fail
    refine (digits_part s w.heap.size (0 + n + 1) _ _ 0 100 _ hs0 (by omega) (by have := HM5.out.rg; omega) (by have := HM5.out.rg; have := HM5.out.gh; omega) (by have := HM5.out.hq; omega) (by decide) (by decide) (by decide) (by decide) HM5.out.rd HM5.out.h1 HM5.out.q1).mono ?_
    rintro e w6 ⟨rfl, hr6, ⟨hg6, hh6⟩, hk6⟩
    have hin2 := dgs_drop s (0 + n + 1) (by omega)
    have hP := partF_bd ((s.data.toList.drop (0 + n + 1)).take (dgs (s.data.toList.drop (0 + n + 1)))) 0 100 (dgs_take _) (by decide) (by decide) (by decide) (by decide)
    have hm6 : Mem3 w w6 _ _ _ _ s _ W _ _ := HM5.out.step hk6 (by
        rintro i (rfl | rfl | rfl)
        · exact HM5.out.r0
        · have := HM5.out.r0; have := HM5.out.rg; have := HM5.out.gh; omega
        · have := HM5.out.r0; have := HM5.out.rg; have := HM5.out.gh; have := HM5.out.hq; omega) hr6
      (HM5.out.g1.of_kept (hk6.block _ HM5.out.g1.lt (by have := HM5.out.rg; have := HM5.out.gh; have := HM5.out.hq; omega))) hg6 hh6
    generalize hm : dgs (s.data.toList.drop (0 + n + 1)) = m at *
    generalize hPP : partF ((s.data.toList.drop (0 + n + 1)).take m) (0, 100) = P at *
    have HM6 := Lib.hid hm6
    have HM := Lib.hid hm
    have HPP := Lib.hid hPP
    clear hr6 hg6 hh6 hk6 hm6 hm hPP
    by_cases h0 : m = 0
    · have hz : ((m : Nat) : Int) = 0 := by omega
      have hz' : (((m : Nat) : Int) == 0) = true := by simp [hz]
      have HP := Lib.hid (pread_none (b := false) HN.out HD.out HM.out (.inl h0))
      go_wp2_with fail
      refine bodyPost_ret (v := .tuple #[.int .i64 0, .int .i64 10]) (by simp [results, Try.results69, go_sem]) rfl ⟨?_, HM6.out.bel⟩
      rw [HP.out]
    · have hz' : (((m : Nat) : Int) == 0) = false := by simp; omega
      have c1 : w6.cell? ⟨w.heap.size, 1, none⟩ = some (.int .i64 ((0 + n + 1 + m : Nat) : Int)) := HM6.out.rd.cell 1
      have cg := HM6.out.g1.cell 0
      have ch := HM6.out.h1.cell 0
      simp only [List.getElem?_toArray, List.getElem?_cons_zero] at cg ch
      have zr := HM6.out.rd.lt
      have zg := HM6.out.g1.lt
      have zh := HM6.out.h1.lt
      by_cases h1 : 0 + n + 1 + m < s.size
      · have HP := Lib.hid (pread_none (b := false) HN.out HD.out HM.out (.inr (by rw [len_data]; exact h1)))
        go_wp2_with fail
        refine bodyPost_ret (v := .tuple #[.int .i64 0, .int .i64 10]) (by simp [results, Try.results69, go_sem]) rfl ⟨?_, HM6.out.bel⟩
        rw [HP.out]
      · have HP := Lib.hid (pread_part (b := false) HN.out HD.out HM.out h0 (by rw [len_data]; exact h1))
        have hh := hold_bd (1000 * W + P.1)
        go_wp2_with fail
        refine (Hold_any _ _).mono ?_; rintro e w' ⟨rfl, rfl⟩
        go_wp2_with fail
        refine bodyPost_ret (v := .tuple #[.int .i64 (hold (1000 * W + P.1)), .int .i64 0]) (by simp [results, Try.results69, go_sem]) rfl ⟨?_, HM6.out.bel⟩
        rw [HP.out, HWW.out, HPP.out]; simp only [if_true, if_false, Bool.false_eq_true]

  · have hd : seen s (0 + n) 46 = false := by simpa using hd
    rw [hd] at hc
    have HC5 := Lib.hid hc
    have HD : Hid (dotted (s.data.toList.drop (0 + n)) = false) := Lib.hid ((dotted_seen s _).trans hd)
    clear hc hd
    go_wp2_with fail
    refine (HC5.out _ HM4.out.rd).mono ?_
    rintro e w5 ⟨rfl, hr5, hk5⟩
    simp only [if_false, Bool.false_eq_true] at hr5
    have hm5 : Mem3 w w5 _ _ _ _ s _ W 0 100 := HM4.out.step hk5 (by rintro i rfl; exact HM4.out.r0) hr5 (HM4.out.g1.of_kept (hk5.block _ HM4.out.g1.lt (by have := HM4.out.rg; omega)))
      (HM4.out.h1.of_kept (hk5.block _ HM4.out.h1.lt (by have := HM4.out.rg; have := HM4.out.gh; omega))) (HM4.out.q1.of_kept (hk5.block _ HM4.out.q1.lt (by have := HM4.out.rg; have := HM4.out.gh; have := HM4.out.hq; omega)))
    have HM5 := Lib.hid hm5
    clear hr5 hk5 hm5
    by_cases h0 : n = 0
    · have hz : ((n : Nat) : Int) = 0 := by omega
      have hz' : (((n : Nat) : Int) == 0) = true := by simp [hz]
      have HP := Lib.hid (pread_zero (b := false) HN.out HD.out (.inl h0))
      go_wp2_with fail
      refine bodyPost_ret (v := .tuple #[.int .i64 0, .int .i64 10]) (by simp [results, Try.results69, go_sem]) rfl ⟨?_, HM5.out.bel⟩
      rw [HP.out]
    · have hz' : (((n : Nat) : Int) == 0) = false := by simp; omega
      have c1 : w5.cell? ⟨w.heap.size, 1, none⟩ = some (.int .i64 ((0 + n : Nat) : Int)) := HM5.out.rd.cell 1
      have cg := HM5.out.g1.cell 0
      have ch := HM5.out.h1.cell 0
      simp only [List.getElem?_toArray, List.getElem?_cons_zero] at cg ch
      have zr := HM5.out.rd.lt
      have zg := HM5.out.g1.lt
      have zh := HM5.out.h1.lt
      by_cases h1 : 0 + n < s.size
      · have HP := Lib.hid (pread_zero (b := false) HN.out HD.out (.inr (by rw [len_data]; exact h1)))
        go_wp2_with fail
        refine bodyPost_ret (v := .tuple #[.int .i64 0, .int .i64 10]) (by simp [results, Try.results69, go_sem]) rfl ⟨?_, HM5.out.bel⟩
        rw [HP.out]
      · have HP := Lib.hid (pread_whole (b := false) HN.out HD.out h0 (by rw [len_data]; exact h1))
        have hh := hold_bd (1000 * W)
        go_wp2_with fail
        refine (Hold_any _ _).mono ?_; rintro e w' ⟨rfl, rfl⟩
        go_wp2_with fail
        refine bodyPost_ret (v := .tuple #[.int .i64 (hold (1000 * W)), .int .i64 0]) (by simp [results, Try.results69, go_sem]) rfl ⟨?_, HM5.out.bel⟩
        rw [HP.out, HWW.out]; simp only [if_true, if_false, Bool.false_eq_true]

/-- What the program reads. -/
def parseP (s : ByteArray) : Int × Int := pread s.data.toList (sgn s.data.toList) (seen s 0 45)

theorem Parse_any (s : ByteArray) (hs0 : s.size ≤ maxLen) (w : World) :
    Calls Try.prog 69 #[.string s] w fun e w' =>
      e = .returned (.tuple #[.int .i64 (parseP s).1, .int .i64 (parseP s).2]) ∧ Below w.heap.size w w' := by
  unfold parseP
  rw [sgn_seen]
  by_cases h45 : seen s 0 45 = true
  · rw [if_pos h45, h45]; exact Parse_minus s hs0 h45 w
  · rw [if_neg h45]
    have h45 : seen s 0 45 = false := by simpa using h45
    rw [h45]
    by_cases h43 : seen s 0 43 = true
    · rw [if_pos h43]; exact Parse_plus s hs0 h45 h43 w
    · rw [if_neg h43]; exact Parse_bare s hs0 h45 (by simpa using h43) w

end Go.Proofs.Ytmicgfpiknibhaa
