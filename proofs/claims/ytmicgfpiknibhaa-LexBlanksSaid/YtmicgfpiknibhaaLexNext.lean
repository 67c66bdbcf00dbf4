/- The lexer's loop: each label's pass. -/
import Derived.Test.YtmicgfpiknibhaaLexLabels
namespace Go.Proofs.Ytmicgfpiknibhaa
open Go.RowKit
set_option linter.unusedSimpArgs false
set_option linter.unusedVariables false
attribute [local go_sem] cell?_ext frozen?_ext lt_size_ext

set_option maxHeartbeats 4000000 in
set_option maxRecDepth 100000 in
theorem pass_comment (s : ByteArray) (r a : Nat) (v : Value) (L : List Tk) (w0 w : World) (C : List Tk) (Q : Exit → Act → World → Prop) (f : Nat → Value) (hs0 : s.size ≤ 1000000) (hr0 : 0 < r) (hg0 : Gm w0) (hlab : lab s a (f 4) 1) (hL : L.length ≤ a) (hC : L ++ cut (s.data.toList.drop a) = C)
    (hB : Lx w r s a v) (ho : w.ownsRow (r + 1) 23 3 v L.length (tkCells L)) (hb0 : Below r w0 w) :
    (lexRest 1).wp Try.prog (LQ s r w0 C 1 a Q) ⟨lxFrame s r f, []⟩ w := by
  have hsm : s.size ≤ maxLen := by unfold maxLen; omega
  obtain ⟨ha2, hE⟩ := hlab
  obtain ⟨hlt, hle, hCC⟩ := cut_next (by omega) hE hC
  have hLb : L.length ≤ 1000000 := by omega
  have hpa := fun w hg hB => pass_any s r (a + 2) v w hs0 ha2 hg hr0 hB
  obtain ⟨m, hm⟩ : ∃ m, m = a + 2 := ⟨_, rfl⟩
  have hmI : (a : Int) + 2 = (m : Int) := by omega
  rw [← hm] at hpa
  rw [show a + (2 + behind (s.data.toList.drop (a + 2))) = m + behind (s.data.toList.drop m) by rw [← hm]; omega] at hlt hle hCC
  rw [Option.toList_none, List.append_nil] at hCC
  generalize behind (s.data.toList.drop m) = k at *
  have HX := Lib.hid hB
  have HO := Lib.hid ho
  have HB := Lib.hid hb0
  have HC := Lib.hid hCC
  clear hB ho hb0 hC hCC hE
  clear hm
  have c0 : w.cell? ⟨r, 0, none⟩ = some (.string s) := HX.out.cell 0
  have c1 : w.cell? ⟨r, 1, none⟩ = some (.int .i64 (a : Int)) := HX.out.cell 1
  have fz := HX.out.frozen
  have hrl := HX.out.lt
  conv => arg 2; whnf
  unfold lxFrame
  go_wp2_with fail
  have HX := Lib.hid (HX.out.put 1 (.int .i64 (m : Int)))
  have HO := Lib.hid (own_put HO.out 1 (.int .i64 (m : Int)))
  have HB := Lib.hid (HB.out.setCell (p := ⟨r, 1, none⟩) (Nat.le_refl r) (.int .i64 (m : Int)))
  refine (hpa _ (hg0.below HB.out hr0) HX.out).mono ?_; rintro e w2 ⟨rfl, hx2, hk2⟩
  have HO := Lib.hid (own_keeps HO.out hk2)
  have HB := Lib.hid (HB.out.trans (keeps_below hk2 HX.out.lt))
  have HX := Lib.hid hx2
  clear hx2 hk2
  go_wp2_with fail
  refine wp_goto ?_
  try simp only [Exit.inBlock, Exit.then]
  exact lq_next (m + k) L (by rfl) (by decide) hlt hle (by omega) HC.out ⟨v, HX.out, HO.out⟩ HB.out

set_option maxHeartbeats 4000000 in
set_option maxRecDepth 100000 in
theorem pass_space (s : ByteArray) (r a : Nat) (v : Value) (L : List Tk) (w0 w : World) (C : List Tk) (Q : Exit → Act → World → Prop) (f : Nat → Value) (hs0 : s.size ≤ 1000000) (hr0 : 0 < r) (hg0 : Gm w0) (hlab : lab s a (f 4) 2) (hL : L.length ≤ a) (hC : L ++ cut (s.data.toList.drop a) = C)
    (hB : Lx w r s a v) (ho : w.ownsRow (r + 1) 23 3 v L.length (tkCells L)) (hb0 : Below r w0 w) :
    (lexRest 2).wp Try.prog (LQ s r w0 C 2 a Q) ⟨lxFrame s r f, []⟩ w := by
  have hsm : s.size ≤ maxLen := by unfold maxLen; omega
  obtain ⟨ha1, hE⟩ := hlab
  obtain ⟨hlt, hle, hCC⟩ := cut_next ha1 hE hC
  have hLb : L.length ≤ 1000000 := by omega
  have hrn := fun w hB => run_blank s r a v w hsm (by omega) hB
  generalize runL isS (s.data.toList.drop a) = k at *
  have HX := Lib.hid hB
  have HO := Lib.hid ho
  have HB := Lib.hid hb0
  have HC := Lib.hid hCC
  clear hB ho hb0 hC hCC hE
  have c0 : w.cell? ⟨r, 0, none⟩ = some (.string s) := HX.out.cell 0
  have c1 : w.cell? ⟨r, 1, none⟩ = some (.int .i64 (a : Int)) := HX.out.cell 1
  have fz := HX.out.frozen
  have hrl := HX.out.lt
  conv => arg 2; whnf
  unfold lxFrame
  go_wp2_with fail
  refine (hrn _ HX.out).mono ?_; rintro e w2 ⟨rfl, hx2, hk2⟩
  have HO := Lib.hid (own_keeps HO.out hk2)
  have HB := Lib.hid (HB.out.trans (keeps_below hk2 HX.out.lt))
  have HX := Lib.hid hx2
  clear hx2 hk2
  go_wp2_with fail
  refine (put_any s r (a + k) v L (⟨20, [], 0⟩ : Tk) _ hLb HX.out HO.out).mono ?_
  rintro e w3 ⟨rfl, hlo, hb3⟩
  have HB := Lib.hid (HB.out.trans hb3)
  have HLO := Lib.hid hlo
  clear hlo hb3
  go_wp2_with fail
  refine wp_goto ?_
  try simp only [Exit.inBlock, Exit.then]
  exact lq_next (a + k) _ (by rfl) (by decide) hlt hle (by simp; omega) HC.out HLO.out HB.out

set_option maxHeartbeats 4000000 in
set_option maxRecDepth 100000 in
theorem pass_text (s : ByteArray) (r a : Nat) (v : Value) (L : List Tk) (w0 w : World) (C : List Tk) (Q : Exit → Act → World → Prop) (f : Nat → Value) (hs0 : s.size ≤ 1000000) (hr0 : 0 < r) (hg0 : Gm w0) (hlab : lab s a (f 4) 3) (hL : L.length ≤ a) (hC : L ++ cut (s.data.toList.drop a) = C)
    (hB : Lx w r s a v) (ho : w.ownsRow (r + 1) 23 3 v L.length (tkCells L)) (hb0 : Below r w0 w) :
    (lexRest 3).wp Try.prog (LQ s r w0 C 3 a Q) ⟨lxFrame s r f, []⟩ w := by
  have hsm : s.size ≤ maxLen := by unfold maxLen; omega
  obtain ⟨ha1, q, h4, hE⟩ := hlab
  obtain ⟨hlt, hle, hCC⟩ := cut_next ha1 hE hC
  have hLb : L.length ≤ 1000000 := by omega
  have hqu := fun w hB ho => quoted_any s r a q v L w hs0 ha1 hLb hB ho
  generalize quoted q (s.data.toList.drop (a + 1)) = Z at *
  obtain ⟨m, hm⟩ : ∃ m, m = a + 1 := ⟨_, rfl⟩
  have hmI : (a : Int) + 1 = (m : Int) := by omega
  rw [← hm] at hqu
  have HX := Lib.hid hB
  have HO := Lib.hid ho
  have HB := Lib.hid hb0
  have HC := Lib.hid hCC
  clear hB ho hb0 hC hCC hE
  clear hm
  have c0 : w.cell? ⟨r, 0, none⟩ = some (.string s) := HX.out.cell 0
  have c1 : w.cell? ⟨r, 1, none⟩ = some (.int .i64 (a : Int)) := HX.out.cell 1
  have fz := HX.out.frozen
  have hrl := HX.out.lt
  conv => arg 2; whnf
  unfold lxFrame
  rw [h4]
  go_wp2_with fail
  have HX := Lib.hid (HX.out.put 1 (.int .i64 (m : Int)))
  have HO := Lib.hid (own_put HO.out 1 (.int .i64 (m : Int)))
  have HB := Lib.hid (HB.out.setCell (p := ⟨r, 1, none⟩) (Nat.le_refl r) (.int .i64 (m : Int)))
  refine (hqu _ HX.out HO.out).mono ?_
  rintro e w3 ⟨rfl, hlo, hb3⟩
  have HB := Lib.hid (HB.out.trans hb3)
  have HLO := Lib.hid hlo
  clear hlo hb3
  go_wp2_with fail
  refine wp_goto ?_
  try simp only [Exit.inBlock, Exit.then]
  exact lq_next (a + Z.2) _ (by rfl) (by decide) hlt hle (by simp; omega) HC.out HLO.out HB.out

set_option maxHeartbeats 4000000 in
set_option maxRecDepth 100000 in
theorem pass_measure (s : ByteArray) (r a : Nat) (v : Value) (L : List Tk) (w0 w : World) (C : List Tk) (Q : Exit → Act → World → Prop) (f : Nat → Value) (hs0 : s.size ≤ 1000000) (hr0 : 0 < r) (hg0 : Gm w0) (hlab : lab s a (f 4) 4) (hL : L.length ≤ a) (hC : L ++ cut (s.data.toList.drop a) = C)
    (hB : Lx w r s a v) (ho : w.ownsRow (r + 1) 23 3 v L.length (tkCells L)) (hb0 : Below r w0 w) :
    (lexRest 4).wp Try.prog (LQ s r w0 C 4 a Q) ⟨lxFrame s r f, []⟩ w := by
  have hsm : s.size ≤ maxLen := by unfold maxLen; omega
  obtain ⟨ha1, h0, hE⟩ := hlab
  obtain ⟨hlt, hle, hCC⟩ := cut_next ha1 hE hC
  have hLb : L.length ≤ 1000000 := by omega
  have hme := fun w hB ho => measure_any s r a v L w hs0 (by omega) h0 hLb hB ho
  generalize measured (s.data.toList.drop a) (num (s.data.toList.drop a)) = Z at *
  have HX := Lib.hid hB
  have HO := Lib.hid ho
  have HB := Lib.hid hb0
  have HC := Lib.hid hCC
  clear hB ho hb0 hC hCC hE
  clear h0
  have c0 : w.cell? ⟨r, 0, none⟩ = some (.string s) := HX.out.cell 0
  have c1 : w.cell? ⟨r, 1, none⟩ = some (.int .i64 (a : Int)) := HX.out.cell 1
  have fz := HX.out.frozen
  have hrl := HX.out.lt
  conv => arg 2; whnf
  unfold lxFrame
  go_wp2_with fail
  refine (hme _ HX.out HO.out).mono ?_
  rintro e w3 ⟨rfl, hlo, hb3⟩
  have HB := Lib.hid (HB.out.trans hb3)
  have HLO := Lib.hid hlo
  clear hlo hb3
  go_wp2_with fail
  refine wp_goto ?_
  try simp only [Exit.inBlock, Exit.then]
  exact lq_next (a + Z.2) _ (by rfl) (by decide) hlt hle (by simp; omega) HC.out HLO.out HB.out

set_option maxHeartbeats 4000000 in
set_option maxRecDepth 100000 in
theorem pass_hash (s : ByteArray) (r a : Nat) (v : Value) (L : List Tk) (w0 w : World) (C : List Tk) (Q : Exit → Act → World → Prop) (f : Nat → Value) (hs0 : s.size ≤ 1000000) (hr0 : 0 < r) (hg0 : Gm w0) (hlab : lab s a (f 4) 5) (hL : L.length ≤ a) (hC : L ++ cut (s.data.toList.drop a) = C)
    (hB : Lx w r s a v) (ho : w.ownsRow (r + 1) 23 3 v L.length (tkCells L)) (hb0 : Below r w0 w) :
    (lexRest 5).wp Try.prog (LQ s r w0 C 5 a Q) ⟨lxFrame s r f, []⟩ w := by
  have hsm : s.size ≤ maxLen := by unfold maxLen; omega
  obtain ⟨ha1, hE⟩ := hlab
  obtain ⟨hlt, hle, hCC⟩ := cut_next ha1 hE hC
  have hLb : L.length ≤ 1000000 := by omega
  have hrn := fun w hB => run_goes s r (a + 1) v w hsm ha1 hB
  generalize runL isG (s.data.toList.drop (a + 1)) = k at *
  obtain ⟨m, hm⟩ : ∃ m, m = a + 1 := ⟨_, rfl⟩
  have hmI : (a : Int) + 1 = (m : Int) := by omega
  rw [← hm] at hrn
  rw [show a + (1 + k) = m + k by omega] at hlt hle hCC
  rw [← hm] at hCC
  have hLl : L.length + 1 ≤ m + k := by omega
  have HX := Lib.hid hB
  have HO := Lib.hid ho
  have HB := Lib.hid hb0
  have HC := Lib.hid hCC
  clear hB ho hb0 hC hCC hE
  clear hm
  have c0 : w.cell? ⟨r, 0, none⟩ = some (.string s) := HX.out.cell 0
  have c1 : w.cell? ⟨r, 1, none⟩ = some (.int .i64 (a : Int)) := HX.out.cell 1
  have fz := HX.out.frozen
  have hrl := HX.out.lt
  conv => arg 2; whnf
  unfold lxFrame
  go_wp2_with fail
  have HX := Lib.hid (HX.out.put 1 (.int .i64 (m : Int)))
  have HO := Lib.hid (own_put HO.out 1 (.int .i64 (m : Int)))
  have HB := Lib.hid (HB.out.setCell (p := ⟨r, 1, none⟩) (Nat.le_refl r) (.int .i64 (m : Int)))
  refine (hrn _ HX.out).mono ?_; rintro e w2 ⟨rfl, hx2, hk2⟩
  have HO := Lib.hid (own_keeps HO.out hk2)
  have HB := Lib.hid (HB.out.trans (keeps_below hk2 HX.out.lt))
  have HX := Lib.hid hx2
  clear hx2 hk2
  go_wp2_with fail
  refine (put_any s r (m + k) v L (⟨4, (s.data.toList.drop m).take k, 0⟩ : Tk) _ hLb HX.out HO.out).mono ?_
  rintro e w3 ⟨rfl, hlo, hb3⟩
  have HB := Lib.hid (HB.out.trans hb3)
  have HLO := Lib.hid hlo
  clear hlo hb3
  go_wp2_with fail
  refine wp_goto ?_
  try simp only [Exit.inBlock, Exit.then]
  exact lq_next (m + k) _ (by rfl) (by decide) hlt hle (by simp; omega) HC.out HLO.out HB.out

set_option maxHeartbeats 4000000 in
set_option maxRecDepth 100000 in
theorem pass_at (s : ByteArray) (r a : Nat) (v : Value) (L : List Tk) (w0 w : World) (C : List Tk) (Q : Exit → Act → World → Prop) (f : Nat → Value) (hs0 : s.size ≤ 1000000) (hr0 : 0 < r) (hg0 : Gm w0) (hlab : lab s a (f 4) 6) (hL : L.length ≤ a) (hC : L ++ cut (s.data.toList.drop a) = C)
    (hB : Lx w r s a v) (ho : w.ownsRow (r + 1) 23 3 v L.length (tkCells L)) (hb0 : Below r w0 w) :
    (lexRest 6).wp Try.prog (LQ s r w0 C 6 a Q) ⟨lxFrame s r f, []⟩ w := by
  have hsm : s.size ≤ maxLen := by unfold maxLen; omega
  obtain ⟨ha1, hE⟩ := hlab
  obtain ⟨hlt, hle, hCC⟩ := cut_next ha1 hE hC
  have hLb : L.length ≤ 1000000 := by omega
  have hrn := fun w hB => run_goes s r (a + 1) v w hsm ha1 hB
  generalize runL isG (s.data.toList.drop (a + 1)) = k at *
  obtain ⟨m, hm⟩ : ∃ m, m = a + 1 := ⟨_, rfl⟩
  have hmI : (a : Int) + 1 = (m : Int) := by omega
  rw [← hm] at hrn
  rw [show a + (1 + k) = m + k by omega] at hlt hle hCC
  rw [← hm] at hCC
  have hLl : L.length + 1 ≤ m + k := by omega
  have HX := Lib.hid hB
  have HO := Lib.hid ho
  have HB := Lib.hid hb0
  have HC := Lib.hid hCC
  clear hB ho hb0 hC hCC hE
  clear hm
  have c0 : w.cell? ⟨r, 0, none⟩ = some (.string s) := HX.out.cell 0
  have c1 : w.cell? ⟨r, 1, none⟩ = some (.int .i64 (a : Int)) := HX.out.cell 1
  have fz := HX.out.frozen
  have hrl := HX.out.lt
  conv => arg 2; whnf
  unfold lxFrame
  go_wp2_with fail
  have HX := Lib.hid (HX.out.put 1 (.int .i64 (m : Int)))
  have HO := Lib.hid (own_put HO.out 1 (.int .i64 (m : Int)))
  have HB := Lib.hid (HB.out.setCell (p := ⟨r, 1, none⟩) (Nat.le_refl r) (.int .i64 (m : Int)))
  refine (hrn _ HX.out).mono ?_; rintro e w2 ⟨rfl, hx2, hk2⟩
  have HO := Lib.hid (own_keeps HO.out hk2)
  have HB := Lib.hid (HB.out.trans (keeps_below hk2 HX.out.lt))
  have HX := Lib.hid hx2
  clear hx2 hk2
  go_wp2_with fail
  refine (put_any s r (m + k) v L (⟨3, (s.data.toList.drop m).take k, 0⟩ : Tk) _ hLb HX.out HO.out).mono ?_
  rintro e w3 ⟨rfl, hlo, hb3⟩
  have HB := Lib.hid (HB.out.trans hb3)
  have HLO := Lib.hid hlo
  clear hlo hb3
  go_wp2_with fail
  refine wp_goto ?_
  try simp only [Exit.inBlock, Exit.then]
  exact lq_next (m + k) _ (by rfl) (by decide) hlt hle (by simp; omega) HC.out HLO.out HB.out

set_option maxHeartbeats 4000000 in
set_option maxRecDepth 100000 in
theorem pass_name (s : ByteArray) (r a : Nat) (v : Value) (L : List Tk) (w0 w : World) (C : List Tk) (Q : Exit → Act → World → Prop) (f : Nat → Value) (hs0 : s.size ≤ 1000000) (hr0 : 0 < r) (hg0 : Gm w0) (hlab : lab s a (f 4) 7) (hL : L.length ≤ a) (hC : L ++ cut (s.data.toList.drop a) = C)
    (hB : Lx w r s a v) (ho : w.ownsRow (r + 1) 23 3 v L.length (tkCells L)) (hb0 : Below r w0 w) :
    (lexRest 7).wp Try.prog (LQ s r w0 C 7 a Q) ⟨lxFrame s r f, []⟩ w := by
  have hsm : s.size ≤ maxLen := by unfold maxLen; omega
  obtain ⟨ha1, hE⟩ := hlab
  obtain ⟨hlt, hle, hCC⟩ := cut_next ha1 hE hC
  have hLb : L.length ≤ 1000000 := by omega
  have hna := fun w hB ho => named_any s r a v L w hs0 (by omega) hLb hB ho
  generalize named (s.data.toList.drop a) = Z at *
  have HX := Lib.hid hB
  have HO := Lib.hid ho
  have HB := Lib.hid hb0
  have HC := Lib.hid hCC
  clear hB ho hb0 hC hCC hE
  have c0 : w.cell? ⟨r, 0, none⟩ = some (.string s) := HX.out.cell 0
  have c1 : w.cell? ⟨r, 1, none⟩ = some (.int .i64 (a : Int)) := HX.out.cell 1
  have fz := HX.out.frozen
  have hrl := HX.out.lt
  conv => arg 2; whnf
  unfold lxFrame
  go_wp2_with fail
  refine (hna _ HX.out HO.out).mono ?_
  rintro e w3 ⟨rfl, hlo, hb3⟩
  have HB := Lib.hid (HB.out.trans hb3)
  have HLO := Lib.hid hlo
  clear hlo hb3
  go_wp2_with fail
  refine wp_goto ?_
  try simp only [Exit.inBlock, Exit.then]
  exact lq_next (a + Z.2) _ (by rfl) (by decide) hlt hle (by simp; omega) HC.out HLO.out HB.out

end Go.Proofs.Ytmicgfpiknibhaa
