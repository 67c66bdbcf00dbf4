/- The lexer takes a name, a string, a number, a measure. -/
import Derived.Test.YtmicgfpiknibhaaLexPass
import Derived.Test.YtmicgfpiknibhaaLexParse
import Derived.Test.YtmicgfpiknibhaaLexOne
namespace Go.Proofs.Ytmicgfpiknibhaa
open Go.RowKit
set_option linter.unusedSimpArgs false
set_option linter.unusedVariables false
attribute [local go_sem] cell?_ext frozen?_ext lt_size_ext

theorem own_put {w : World} {r : Nat} {e : TypeId} {size n : Nat} {v : Value} {xs : List Value} (h : w.ownsRow (r + 1) e size v n xs) (i : Nat) (u : Value) : (w.setCell ⟨r, i, none⟩ u).ownsRow (r + 1) e size v n xs :=
  own_of_block h fun k hk => Below.heap_setCell _ _ _ k (by have h1 := (h.lt k hk).1; intro e; have e2 : k = r := e; omega)
theorem keeps_below {w w' : World} {r : Nat} (h : Keeps (fun i => i = r) w w') (hr : r < w.heap.size) : Below r w w' := h.toBelow (Nat.le_of_lt hr) fun k hk => by subst hk; exact Nat.le_refl _
theorem below_low {w w' w'' : World} {r : Nat} (h : Below r w w') (hr : r < w'.heap.size) (k : Below w'.heap.size w' w'') : Below r w w'' := h.trans (k.mono (Nat.le_of_lt hr))

set_option maxHeartbeats 1000000 in
theorem named_fn (s : ByteArray) (r a k : Nat) (v : Value) (L : List Tk) (w : World) (hs0 : s.size ≤ 1000000) (ha : a + k ≤ s.size) (hk : runL isG (s.data.toList.drop a) = k) (hL : L.length ≤ 1000000) (hh : (((pk s (a + k)).toNat : Int) == 40) = true)
    (hB : Lx w r s a v) (ho : w.ownsRow (r + 1) 23 3 v L.length (tkCells L)) :
    Calls Try.prog 39 #[.pointer (some ⟨r, 0, none⟩)] w fun e w' => e = .returned (.tuple #[]) ∧ Lo w' r s (a + k + 1) (L ++ [(⟨2, (s.data.toList.drop a).take k, 0⟩ : Tk)]) ∧ Below r w w' := by
  have hsm : s.size ≤ maxLen := by unfold maxLen; omega
  have hrun := fun w hB => run_goes s r a v w hsm (by omega) hB
  have hpk := fun w hB => peek_any s r (a + k) 0 v w hsm ha (by omega) hB
  obtain ⟨m, hm⟩ : ∃ m, m = a + k := ⟨_, rfl⟩
  have hmb : (m : Int) ≤ 1000000 := by omega
  rw [hk, ← hm] at hrun
  rw [Nat.add_zero, ← hm] at hpk
  rw [← hm] at hh ⊢
  generalize pk s m = c at *
  have HX := Lib.hid hB
  have HO := Lib.hid ho
  have HB := Lib.hid (Below.refl r w)
  clear hB ho
  clear hk hm ha
  go_enter Try.func39, Try.ntmps39
  go_wp2_with fail
  refine (hrun _ HX.out).mono ?_; rintro e w2 ⟨rfl, hx2, hk2⟩
  have HO := Lib.hid (own_keeps HO.out hk2)
  have HB := Lib.hid (HB.out.trans (keeps_below hk2 HX.out.lt))
  have HX := Lib.hid hx2
  clear hx2 hk2
  go_wp2_with fail
  refine (hpk _ HX.out).mono ?_; rintro e w2 ⟨rfl, hb2⟩
  have HO := Lib.hid (own_then HO.out hb2)
  have HB := Lib.hid (below_low HB.out HX.out.lt hb2)
  have HX := Lib.hid (HX.out.then_ hb2)
  clear hb2
  have c0 := HX.out.cell 0
  have c1 : w2.cell? ⟨r, 1, none⟩ = some (.int .i64 (m : Int)) := HX.out.cell 1
  have fz := HX.out.frozen
  have hrl := HX.out.lt
  go_wp2_with fail
  refine (put_any s r (m + 1) v L (⟨2, (s.data.toList.drop a).take k, 0⟩ : Tk) _ hL ?hx ?ho).mono ?_
  case hx => exact HX.out.put 1 _
  case ho => exact own_put HO.out 1 _
  rintro e w3 ⟨rfl, hlo, hb3⟩
  have HB := Lib.hid ((HB.out.setCell (Nat.le_refl r) _).trans hb3)
  have HLO := Lib.hid hlo
  clear hlo hb3
  go_wp2_with fail
  refine bodyPost_ret (results_none rfl _ _ _) rfl ?_
  exact ⟨rfl, HLO.out, HB.out⟩

set_option maxHeartbeats 1000000 in
theorem named_id (s : ByteArray) (r a k : Nat) (v : Value) (L : List Tk) (w : World) (hs0 : s.size ≤ 1000000) (ha : a + k ≤ s.size) (hk : runL isG (s.data.toList.drop a) = k) (hL : L.length ≤ 1000000) (hh : (((pk s (a + k)).toNat : Int) == 40) = false)
    (hB : Lx w r s a v) (ho : w.ownsRow (r + 1) 23 3 v L.length (tkCells L)) :
    Calls Try.prog 39 #[.pointer (some ⟨r, 0, none⟩)] w fun e w' => e = .returned (.tuple #[]) ∧ Lo w' r s (a + k) (L ++ [(⟨1, (s.data.toList.drop a).take k, 0⟩ : Tk)]) ∧ Below r w w' := by
  have hsm : s.size ≤ maxLen := by unfold maxLen; omega
  have hrun := fun w hB => run_goes s r a v w hsm (by omega) hB
  have hpk := fun w hB => peek_any s r (a + k) 0 v w hsm ha (by omega) hB
  obtain ⟨m, hm⟩ : ∃ m, m = a + k := ⟨_, rfl⟩
  have hmb : (m : Int) ≤ 1000000 := by omega
  rw [hk, ← hm] at hrun
  rw [Nat.add_zero, ← hm] at hpk
  rw [← hm] at hh ⊢
  generalize pk s m = c at *
  have HX := Lib.hid hB
  have HO := Lib.hid ho
  have HB := Lib.hid (Below.refl r w)
  clear hB ho
  clear hk hm ha
  go_enter Try.func39, Try.ntmps39
  go_wp2_with fail
  refine (hrun _ HX.out).mono ?_; rintro e w2 ⟨rfl, hx2, hk2⟩
  have HO := Lib.hid (own_keeps HO.out hk2)
  have HB := Lib.hid (HB.out.trans (keeps_below hk2 HX.out.lt))
  have HX := Lib.hid hx2
  clear hx2 hk2
  go_wp2_with fail
  refine (hpk _ HX.out).mono ?_; rintro e w2 ⟨rfl, hb2⟩
  have HO := Lib.hid (own_then HO.out hb2)
  have HB := Lib.hid (below_low HB.out HX.out.lt hb2)
  have HX := Lib.hid (HX.out.then_ hb2)
  clear hb2
  go_wp2_with fail
  refine (put_any s r m v L (⟨1, (s.data.toList.drop a).take k, 0⟩ : Tk) _ hL ?hx ?ho).mono ?_
  case hx => exact HX.out
  case ho => exact HO.out
  rintro e w3 ⟨rfl, hlo, hb3⟩
  have HB := Lib.hid (HB.out.trans hb3)
  have HLO := Lib.hid hlo
  clear hlo hb3
  go_wp2_with fail
  go_end0
  exact ⟨rfl, HLO.out, HB.out⟩

theorem named_any (s : ByteArray) (r a : Nat) (v : Value) (L : List Tk) (w : World) (hs0 : s.size ≤ 1000000) (ha : a ≤ s.size) (hL : L.length ≤ 1000000) (hB : Lx w r s a v) (ho : w.ownsRow (r + 1) 23 3 v L.length (tkCells L)) :
    Calls Try.prog 39 #[.pointer (some ⟨r, 0, none⟩)] w fun e w' => e = .returned (.tuple #[]) ∧ Lo w' r s (a + (named (s.data.toList.drop a)).2) (L ++ [(named (s.data.toList.drop a)).1]) ∧ Below r w w' := by
  obtain ⟨k, hk⟩ : ∃ k, runL isG (s.data.toList.drop a) = k := ⟨_, rfl⟩
  have hkl := runL_le isG (s.data.toList.drop a)
  rw [List.length_drop, len_data, hk] at hkl
  have hp := heads_pk 40 (by decide) s (a + k)
  rw [← List.drop_drop] at hp
  have e1 : (((pk s (a + k)).toNat : Int) == 40) = decide ((pk s (a + k)).toNat = 40) := byte_eq _ 40
  cases hh : decide ((pk s (a + k)).toNat = 40) with
  | true =>
    rw [named_fun hk (hp.trans hh)]
    exact named_fn s r a k v L w hs0 (by omega) hk hL (e1.trans hh) hB ho
  | false =>
    rw [named_name hk (hp.trans hh)]
    exact named_id s r a k v L w hs0 (by omega) hk hL (e1.trans hh) hB ho

set_option maxHeartbeats 1000000 in
theorem quoted_ln (s : ByteArray) (r a q k : Nat) (v : Value) (L : List Tk) (w : World) (hs0 : s.size ≤ 1000000) (ha : a + k ≤ s.size) (hk : runL (qp q) (s.data.toList.drop a) = k) (hL : L.length ≤ 1000000) (hh : (((pk s (a + k)).toNat : Int) == 10) = true)
    (hB : Lx w r s a v) (ho : w.ownsRow (r + 1) 23 3 v L.length (tkCells L)) :
    Calls Try.prog 37 #[.pointer (some ⟨r, 0, none⟩), .int .u8 (q : Int)] w fun e w' => e = .returned (.tuple #[]) ∧ Lo w' r s (a + k) (L ++ [(⟨6, (s.data.toList.drop a).take k, 0⟩ : Tk)]) ∧ Below r w w' := by
  have hsm : s.size ≤ maxLen := by unfold maxLen; omega
  have hrun := run_past s r a q w.heap.size v (w.alloc (.cells #[.int .u8 (q : Int)] 5)) hsm (by omega) (hB.alloc _) (Blk.new w _ _) (Nat.ne_of_gt hB.lt)
  have hpk := fun w hB => peek_any s r (a + k) 0 v w hsm ha (by omega) hB
  obtain ⟨m, hm⟩ : ∃ m, m = a + k := ⟨_, rfl⟩
  have hmb : (m : Int) ≤ 1000000 := by omega
  have hsz : (s.size : Int) ≤ 1000000 := by omega
  rw [hk, ← hm] at hrun
  rw [Nat.add_zero, ← hm] at hpk
  rw [← hm] at hh ⊢
  generalize pk s m = c at *
  have HO := Lib.hid (ho.alloc (.cells #[.int .u8 (q : Int)] 5))
  have HB := Lib.hid ((Below.refl r w).alloc (Nat.le_of_lt hB.lt) (.cells #[.int .u8 (q : Int)] 5))
  have HX := Lib.hid (hB.alloc (.cells #[.int .u8 (q : Int)] 5))
  clear hB ho hk hm ha
  go_enter Try.func37, Try.ntmps37
  go_wp2_with fail
  refine hrun.mono ?_; rintro e w2 ⟨rfl, hx2, hk2⟩
  have HO := Lib.hid (own_keeps HO.out hk2)
  have HB := Lib.hid (HB.out.trans (keeps_below hk2 HX.out.lt))
  have HX := Lib.hid hx2
  clear hx2 hk2 hrun
  go_wp2_with fail
  refine (hpk _ HX.out).mono ?_; rintro e w2 ⟨rfl, hb2⟩
  have HO := Lib.hid (own_then HO.out hb2)
  have HB := Lib.hid (below_low HB.out HX.out.lt hb2)
  have HX := Lib.hid (HX.out.then_ hb2)
  clear hb2
  go_wp2_with fail
  refine (put_any s r m v L (⟨6, (s.data.toList.drop a).take k, 0⟩ : Tk) _ hL ?hx ?ho).mono ?_
  case hx => exact HX.out
  case ho => exact HO.out
  rintro e w3 ⟨rfl, hlo, hb3⟩
  have HB := Lib.hid (HB.out.trans hb3)
  have HLO := Lib.hid hlo
  clear hlo hb3
  go_wp2_with fail
  refine bodyPost_ret (results_none rfl _ _ _) rfl ?_
  exact ⟨rfl, HLO.out, HB.out⟩

set_option maxHeartbeats 1000000 in
theorem quoted_en (s : ByteArray) (r a q k : Nat) (v : Value) (L : List Tk) (w : World) (hs0 : s.size ≤ 1000000) (ha : a + k ≤ s.size) (hk : runL (qp q) (s.data.toList.drop a) = k) (hL : L.length ≤ 1000000) (hh : (((pk s (a + k)).toNat : Int) == 10) = false) (hlt : ¬ a + k < s.size)
    (hB : Lx w r s a v) (ho : w.ownsRow (r + 1) 23 3 v L.length (tkCells L)) :
    Calls Try.prog 37 #[.pointer (some ⟨r, 0, none⟩), .int .u8 (q : Int)] w fun e w' => e = .returned (.tuple #[]) ∧ Lo w' r s (a + k) (L ++ [(⟨5, (s.data.toList.drop a).take k, 0⟩ : Tk)]) ∧ Below r w w' := by
  have hsm : s.size ≤ maxLen := by unfold maxLen; omega
  have hrun := run_past s r a q w.heap.size v (w.alloc (.cells #[.int .u8 (q : Int)] 5)) hsm (by omega) (hB.alloc _) (Blk.new w _ _) (Nat.ne_of_gt hB.lt)
  have hpk := fun w hB => peek_any s r (a + k) 0 v w hsm ha (by omega) hB
  obtain ⟨m, hm⟩ : ∃ m, m = a + k := ⟨_, rfl⟩
  have hmb : (m : Int) ≤ 1000000 := by omega
  have hsz : (s.size : Int) ≤ 1000000 := by omega
  rw [hk, ← hm] at hrun
  rw [Nat.add_zero, ← hm] at hpk
  have d0 : decide ((m : Int) < (s.size : Int)) = false := decide_eq_false (by omega)
  have d1 : decide (m < s.size) = false := decide_eq_false (by omega)
  clear hlt
  rw [← hm] at hh ⊢
  generalize pk s m = c at *
  have HO := Lib.hid (ho.alloc (.cells #[.int .u8 (q : Int)] 5))
  have HB := Lib.hid ((Below.refl r w).alloc (Nat.le_of_lt hB.lt) (.cells #[.int .u8 (q : Int)] 5))
  have HX := Lib.hid (hB.alloc (.cells #[.int .u8 (q : Int)] 5))
  clear hB ho hk hm ha
  go_enter Try.func37, Try.ntmps37
  go_wp2_with fail
  refine hrun.mono ?_; rintro e w2 ⟨rfl, hx2, hk2⟩
  have HO := Lib.hid (own_keeps HO.out hk2)
  have HB := Lib.hid (HB.out.trans (keeps_below hk2 HX.out.lt))
  have HX := Lib.hid hx2
  clear hx2 hk2 hrun
  go_wp2_with fail
  refine (hpk _ HX.out).mono ?_; rintro e w2 ⟨rfl, hb2⟩
  have HO := Lib.hid (own_then HO.out hb2)
  have HB := Lib.hid (below_low HB.out HX.out.lt hb2)
  have HX := Lib.hid (HX.out.then_ hb2)
  clear hb2
  have c0 := HX.out.cell 0
  have c1 : w2.cell? ⟨r, 1, none⟩ = some (.int .i64 (m : Int)) := HX.out.cell 1
  have fz := HX.out.frozen
  have hrl := HX.out.lt
  go_wp2_with fail
  refine wp_region_ext (by kernel_rfl) (by kernel_rfl) ?_
  repeat (go_big_quiet_step (fail))
  refine wpQuiet_nil ?_
  intro w4 hw4
  have hb4 := (grown_rules hw4).2.2.2
  clear hw4 c0 c1 fz hrl
  have HO := Lib.hid (own_then HO.out hb4)
  have HB := Lib.hid (below_low HB.out HX.out.lt hb4)
  have HX := Lib.hid (HX.out.then_ hb4)
  clear hb4
  go_wp2_with fail
  refine (put_any s r m v L (⟨5, (s.data.toList.drop a).take k, 0⟩ : Tk) _ hL ?hx ?ho).mono ?_
  case hx => exact HX.out
  case ho => exact HO.out
  rintro e w3 ⟨rfl, hlo, hb3⟩
  have HB := Lib.hid (HB.out.trans hb3)
  have HLO := Lib.hid hlo
  clear hlo hb3
  go_wp2_with fail
  go_end0
  exact ⟨rfl, HLO.out, HB.out⟩

set_option maxHeartbeats 1000000 in
theorem quoted_sh (s : ByteArray) (r a q k : Nat) (v : Value) (L : List Tk) (w : World) (hs0 : s.size ≤ 1000000) (ha : a + k ≤ s.size) (hk : runL (qp q) (s.data.toList.drop a) = k) (hL : L.length ≤ 1000000) (hh : (((pk s (a + k)).toNat : Int) == 10) = false) (hlt : a + k < s.size)
    (hB : Lx w r s a v) (ho : w.ownsRow (r + 1) 23 3 v L.length (tkCells L)) :
    Calls Try.prog 37 #[.pointer (some ⟨r, 0, none⟩), .int .u8 (q : Int)] w fun e w' => e = .returned (.tuple #[]) ∧ Lo w' r s (a + k + 1) (L ++ [(⟨5, (s.data.toList.drop a).take k, 0⟩ : Tk)]) ∧ Below r w w' := by
  have hsm : s.size ≤ maxLen := by unfold maxLen; omega
  have hrun := run_past s r a q w.heap.size v (w.alloc (.cells #[.int .u8 (q : Int)] 5)) hsm (by omega) (hB.alloc _) (Blk.new w _ _) (Nat.ne_of_gt hB.lt)
  have hpk := fun w hB => peek_any s r (a + k) 0 v w hsm ha (by omega) hB
  obtain ⟨m, hm⟩ : ∃ m, m = a + k := ⟨_, rfl⟩
  have hmb : (m : Int) ≤ 1000000 := by omega
  have hsz : (s.size : Int) ≤ 1000000 := by omega
  rw [hk, ← hm] at hrun
  rw [Nat.add_zero, ← hm] at hpk
  have d0 : decide ((m : Int) < (s.size : Int)) = true := decide_eq_true (by omega)
  have d1 : decide (m < s.size) = true := decide_eq_true (by omega)
  clear hlt
  rw [← hm] at hh ⊢
  generalize pk s m = c at *
  have HO := Lib.hid (ho.alloc (.cells #[.int .u8 (q : Int)] 5))
  have HB := Lib.hid ((Below.refl r w).alloc (Nat.le_of_lt hB.lt) (.cells #[.int .u8 (q : Int)] 5))
  have HX := Lib.hid (hB.alloc (.cells #[.int .u8 (q : Int)] 5))
  clear hB ho hk hm ha
  go_enter Try.func37, Try.ntmps37
  go_wp2_with fail
  refine hrun.mono ?_; rintro e w2 ⟨rfl, hx2, hk2⟩
  have HO := Lib.hid (own_keeps HO.out hk2)
  have HB := Lib.hid (HB.out.trans (keeps_below hk2 HX.out.lt))
  have HX := Lib.hid hx2
  clear hx2 hk2 hrun
  go_wp2_with fail
  refine (hpk _ HX.out).mono ?_; rintro e w2 ⟨rfl, hb2⟩
  have HO := Lib.hid (own_then HO.out hb2)
  have HB := Lib.hid (below_low HB.out HX.out.lt hb2)
  have HX := Lib.hid (HX.out.then_ hb2)
  clear hb2
  have c0 := HX.out.cell 0
  have c1 : w2.cell? ⟨r, 1, none⟩ = some (.int .i64 (m : Int)) := HX.out.cell 1
  have fz := HX.out.frozen
  have hrl := HX.out.lt
  go_wp2_with fail
  refine wp_region_ext (by kernel_rfl) (by kernel_rfl) ?_
  repeat (go_big_quiet_step (fail))
  refine wpQuiet_nil ?_
  intro w4 hw4
  have hb4 := (grown_rules hw4).2.2.2
  clear hw4 c0 c1 fz hrl
  have HO := Lib.hid (own_then HO.out hb4)
  have HB := Lib.hid (below_low HB.out HX.out.lt hb4)
  have HX := Lib.hid (HX.out.then_ hb4)
  clear hb4
  have c0 := HX.out.cell 0
  have c1 : w4.cell? ⟨r, 1, none⟩ = some (.int .i64 (m : Int)) := HX.out.cell 1
  have fz := HX.out.frozen
  have hrl := HX.out.lt
  go_wp2_with fail
  refine (put_any s r (m + 1) v L (⟨5, (s.data.toList.drop a).take k, 0⟩ : Tk) _ hL ?hx ?ho).mono ?_
  case hx => exact HX.out.put 1 _
  case ho => exact own_put HO.out 1 _
  rintro e w3 ⟨rfl, hlo, hb3⟩
  have HB := Lib.hid ((HB.out.setCell (Nat.le_refl r) _).trans hb3)
  have HLO := Lib.hid hlo
  clear hlo hb3
  go_wp2_with fail
  go_end0
  exact ⟨rfl, HLO.out, HB.out⟩

theorem quoted_any (s : ByteArray) (r a q : Nat) (v : Value) (L : List Tk) (w : World) (hs0 : s.size ≤ 1000000) (ha : a + 1 ≤ s.size) (hL : L.length ≤ 1000000) (hB : Lx w r s (a + 1) v) (ho : w.ownsRow (r + 1) 23 3 v L.length (tkCells L)) :
    Calls Try.prog 37 #[.pointer (some ⟨r, 0, none⟩), .int .u8 (q : Int)] w fun e w' => e = .returned (.tuple #[]) ∧ Lo w' r s (a + (quoted q (s.data.toList.drop (a + 1))).2) (L ++ [(quoted q (s.data.toList.drop (a + 1))).1]) ∧ Below r w w' := by
  obtain ⟨k, hk⟩ : ∃ k, runL (qp q) (s.data.toList.drop (a + 1)) = k := ⟨_, rfl⟩
  have hkl := runL_le (qp q) (s.data.toList.drop (a + 1))
  rw [List.length_drop, len_data, hk] at hkl
  have e1 : (((pk s (a + 1 + k)).toNat : Int) == 10) = decide ((pk s (a + 1 + k)).toNat = 10) := byte_eq _ 10
  by_cases hlt : a + 1 + k < s.size
  · have hd : (s.data.toList.drop (a + 1)).drop k = s[a + 1 + k] :: s.data.toList.drop (a + 1 + k + 1) := by rw [List.drop_drop]; exact drop_at s _ hlt
    rw [pk_at hlt] at e1
    by_cases h10 : s[a + 1 + k].toNat = 10
    · rw [quoted_line hk hd h10, show a + (1 + k) = a + 1 + k by omega]
      exact quoted_ln s r (a + 1) q k v L w hs0 (by omega) hk hL (by rw [pk_at hlt, e1, h10]; rfl) hB ho
    · rw [quoted_shut hk hd h10, show a + (2 + k) = a + 1 + k + 1 by omega]
      exact quoted_sh s r (a + 1) q k v L w hs0 (by omega) hk hL (by rw [pk_at hlt, e1]; exact decide_eq_false h10) hlt hB ho
  · have hd : (s.data.toList.drop (a + 1)).drop k = [] := by rw [List.drop_drop]; exact drop_end s _ (by omega)
    rw [quoted_end hk hd, show a + (1 + k) = a + 1 + k by omega]
    exact quoted_en s r (a + 1) q k v L w hs0 (by omega) hk hL (by rw [pk_end hlt]; rfl) hlt hB ho

theorem runL_dgs : ∀ l : List UInt8, runL isD l = dgs l
  | [] => rfl
  | c :: t => by rw [runL, dgs, runL_dgs t]

set_option maxHeartbeats 1000000 in
theorem numeral_plus_dot (s : ByteArray) (r a b n c p e : Nat) (v : Value) (w : World) (hs0 : s.size ≤ 1000000) (hB : Lx w r s a v) (h43 : (((pk s a).toNat : Int) == 43) = true) (hb : b = a + 1) (hbs : b ≤ s.size) (hn : dgs (s.data.toList.drop b) = n) (hc : c = b + n) (hcs : c ≤ s.size) (h46 : (((pk s c).toNat : Int) == 46) = true) (hdd : isD (pk s (c + 1)) = true) (hc1 : c + 1 ≤ s.size) (hp : dgs (s.data.toList.drop (c + 1)) = p) (he : e = c + 1 + p) (hes0 : e ≤ s.size) :
    Calls Try.prog 60 #[.pointer (some ⟨r, 0, none⟩)] w fun e1 w' => e1 = .returned (.int .i64 (parseP (s.extract a e)).1) ∧ Lx w' r s e v ∧ Keeps (fun i => i = r) w w' := by
  have hsm : s.size ≤ maxLen := by unfold maxLen; omega
  have hsz : s.size ≤ 9223372036854775807 := by omega
  have hae : a ≤ e := by omega
  have haei : (a : Int) ≤ (e : Int) := by omega
  have hes : e ≤ s.size := by omega
  have hab : (a : Int) ≤ 1000000 := by omega
  have hcb : (c : Int) ≤ 1000000 := by omega
  have hpa := fun w hB => peek_any s r a 0 v w hsm (by omega) (by omega) hB
  have hpc := fun w hB => peek_any s r c 0 v w hsm hcs (by omega) hB
  have hpd := fun w hB => peek_any s r c 1 v w hsm hcs (by omega) hB
  have hrb := fun w hB => run_digit s r b v w hsm (by omega) hB
  rw [Nat.add_zero] at hpa hpc
  rw [runL_dgs, hn, ← hc] at hrb
  have hpar := fun w => Parse_any (s.extract a e) (by have : (s.extract a e).size ≤ s.size := by simp; omega
                                                      unfold maxLen; omega) w
  generalize parseP (s.extract a e) = PR at *
  generalize hx : pk s a = x at *
  generalize hy : pk s c = y at *
  subst hb
  have hre := fun w hB => run_digit s r (c + 1) v w hsm hc1 hB
  rw [runL_dgs, hp, ← he] at hre
  have hdig := fun w => digit_any (pk s (c + 1)) w
  rw [hdd] at hdig
  clear hdd
  generalize pk s (c + 1) = z at *
  have HX := Lib.hid hB
  have HK := Lib.hid (Keeps.refl (fun i => i = r) w)
  clear hB hx hy hn hc hcs hbs hc1 hp he hes0
  go_enter Try.func60, Try.ntmps60
  have c0 := HX.out.cell 0
  have c1 : w.cell? ⟨r, 1, none⟩ = some (.int .i64 (a : Int)) := HX.out.cell 1
  have fz := HX.out.frozen
  have hrl := HX.out.lt
  go_wp2_with fail
  clear c0 c1 fz hrl
  refine (hpa _ HX.out).mono ?_; rintro e w2 ⟨rfl, hb2⟩
  have HK := Lib.hid (HK.out.then_ hb2)
  have HX := Lib.hid (HX.out.then_ hb2)
  clear hb2
  have c0 := HX.out.cell 0
  have c1 : w2.cell? ⟨r, 1, none⟩ = some (.int .i64 (a : Int)) := HX.out.cell 1
  have fz := HX.out.frozen
  have hrl := HX.out.lt
  go_wp2_with fail
  refine (hrb _ ?hx).mono ?_
  case hx => exact HX.out.put 1 _
  rintro e w2 ⟨rfl, hx2, hk2⟩
  have HK := Lib.hid ((Keeps.put (X := fun i => i = r) (p := ⟨r, 1, none⟩) HK.out (.inl rfl) _).trans hk2)
  have HX := Lib.hid hx2
  clear hx2 hk2 c0 c1 fz hrl
  go_wp2_with fail
  refine (hpc _ HX.out).mono ?_; rintro e w2 ⟨rfl, hb2⟩
  have HK := Lib.hid (HK.out.then_ hb2)
  have HX := Lib.hid (HX.out.then_ hb2)
  clear hb2
  go_wp2_with fail
  refine (hpd _ HX.out).mono ?_; rintro e w2 ⟨rfl, hb2⟩
  have HK := Lib.hid (HK.out.then_ hb2)
  have HX := Lib.hid (HX.out.then_ hb2)
  clear hb2
  go_wp2_with fail
  refine (hdig _).mono ?_; rintro e1 w' ⟨rfl, rfl⟩
  have c0 := HX.out.cell 0
  have c1 : w2.cell? ⟨r, 1, none⟩ = some (.int .i64 (c : Int)) := HX.out.cell 1
  have fz := HX.out.frozen
  have hrl := HX.out.lt
  go_wp2_with fail
  refine (hre _ ?hx).mono ?_
  case hx => exact HX.out.put 1 _
  rintro e w2 ⟨rfl, hx2, hk2⟩
  have HK := Lib.hid ((Keeps.put (X := fun i => i = r) (p := ⟨r, 1, none⟩) HK.out (.inl rfl) _).trans hk2)
  have HX := Lib.hid hx2
  clear hx2 hk2 c0 c1 fz hrl
  have c0 := HX.out.cell 0
  have c1 : w2.cell? ⟨r, 1, none⟩ = some (.int .i64 (e : Int)) := HX.out.cell 1
  have fz := HX.out.frozen
  have hrl := HX.out.lt
  go_wp2_with fail
  refine wp_region_ext (by kernel_rfl) (by kernel_rfl) ?_
  repeat (go_big_quiet_step ((go_at_call 69; exact quiet_ext (hpar _))))
  refine wpQuiet_nil ?_
  intro w4 hw4
  have hb4 := (grown_rules hw4).2.2.2
  clear hw4 c0 c1 fz hrl
  have HK := Lib.hid (HK.out.then_ hb4)
  have HX := Lib.hid (HX.out.then_ hb4)
  clear hb4
  go_wp2_with fail
  go_ret
  exact ⟨rfl, HX.out, HK.out⟩

set_option maxHeartbeats 1000000 in
theorem numeral_plus_nodig (s : ByteArray) (r a b n c p e : Nat) (v : Value) (w : World) (hs0 : s.size ≤ 1000000) (hB : Lx w r s a v) (h43 : (((pk s a).toNat : Int) == 43) = true) (hb : b = a + 1) (hbs : b ≤ s.size) (hn : dgs (s.data.toList.drop b) = n) (hc : c = b + n) (hcs : c ≤ s.size) (h46 : (((pk s c).toNat : Int) == 46) = true) (hdd : isD (pk s (c + 1)) = false) (he : c = e) :
    Calls Try.prog 60 #[.pointer (some ⟨r, 0, none⟩)] w fun e1 w' => e1 = .returned (.int .i64 (parseP (s.extract a e)).1) ∧ Lx w' r s e v ∧ Keeps (fun i => i = r) w w' := by
  have hsm : s.size ≤ maxLen := by unfold maxLen; omega
  have hsz : s.size ≤ 9223372036854775807 := by omega
  have hae : a ≤ e := by omega
  have haei : (a : Int) ≤ (e : Int) := by omega
  have hes : e ≤ s.size := by omega
  have hab : (a : Int) ≤ 1000000 := by omega
  have hcb : (c : Int) ≤ 1000000 := by omega
  have hpa := fun w hB => peek_any s r a 0 v w hsm (by omega) (by omega) hB
  have hpc := fun w hB => peek_any s r c 0 v w hsm hcs (by omega) hB
  have hpd := fun w hB => peek_any s r c 1 v w hsm hcs (by omega) hB
  have hrb := fun w hB => run_digit s r b v w hsm (by omega) hB
  rw [Nat.add_zero] at hpa hpc
  rw [runL_dgs, hn, ← hc] at hrb
  have hpar := fun w => Parse_any (s.extract a e) (by have : (s.extract a e).size ≤ s.size := by simp; omega
                                                      unfold maxLen; omega) w
  generalize parseP (s.extract a e) = PR at *
  generalize hx : pk s a = x at *
  generalize hy : pk s c = y at *
  subst hb
  have hdig := fun w => digit_any (pk s (c + 1)) w
  rw [hdd] at hdig
  clear hdd
  generalize pk s (c + 1) = z at *
  subst he
  have HX := Lib.hid hB
  have HK := Lib.hid (Keeps.refl (fun i => i = r) w)
  clear hB hx hy hn hc hcs hbs
  go_enter Try.func60, Try.ntmps60
  have c0 := HX.out.cell 0
  have c1 : w.cell? ⟨r, 1, none⟩ = some (.int .i64 (a : Int)) := HX.out.cell 1
  have fz := HX.out.frozen
  have hrl := HX.out.lt
  go_wp2_with fail
  clear c0 c1 fz hrl
  refine (hpa _ HX.out).mono ?_; rintro e w2 ⟨rfl, hb2⟩
  have HK := Lib.hid (HK.out.then_ hb2)
  have HX := Lib.hid (HX.out.then_ hb2)
  clear hb2
  have c0 := HX.out.cell 0
  have c1 : w2.cell? ⟨r, 1, none⟩ = some (.int .i64 (a : Int)) := HX.out.cell 1
  have fz := HX.out.frozen
  have hrl := HX.out.lt
  go_wp2_with fail
  refine (hrb _ ?hx).mono ?_
  case hx => exact HX.out.put 1 _
  rintro e w2 ⟨rfl, hx2, hk2⟩
  have HK := Lib.hid ((Keeps.put (X := fun i => i = r) (p := ⟨r, 1, none⟩) HK.out (.inl rfl) _).trans hk2)
  have HX := Lib.hid hx2
  clear hx2 hk2 c0 c1 fz hrl
  go_wp2_with fail
  refine (hpc _ HX.out).mono ?_; rintro e w2 ⟨rfl, hb2⟩
  have HK := Lib.hid (HK.out.then_ hb2)
  have HX := Lib.hid (HX.out.then_ hb2)
  clear hb2
  go_wp2_with fail
  refine (hpd _ HX.out).mono ?_; rintro e w2 ⟨rfl, hb2⟩
  have HK := Lib.hid (HK.out.then_ hb2)
  have HX := Lib.hid (HX.out.then_ hb2)
  clear hb2
  go_wp2_with fail
  refine (hdig _).mono ?_; rintro e1 w' ⟨rfl, rfl⟩
  have c0 := HX.out.cell 0
  have c1 : w2.cell? ⟨r, 1, none⟩ = some (.int .i64 (c : Int)) := HX.out.cell 1
  have fz := HX.out.frozen
  have hrl := HX.out.lt
  go_wp2_with fail
  refine wp_region_ext (by kernel_rfl) (by kernel_rfl) ?_
  repeat (go_big_quiet_step ((go_at_call 69; exact quiet_ext (hpar _))))
  refine wpQuiet_nil ?_
  intro w4 hw4
  have hb4 := (grown_rules hw4).2.2.2
  clear hw4 c0 c1 fz hrl
  have HK := Lib.hid (HK.out.then_ hb4)
  have HX := Lib.hid (HX.out.then_ hb4)
  clear hb4
  go_wp2_with fail
  go_ret
  exact ⟨rfl, HX.out, HK.out⟩

set_option maxHeartbeats 1000000 in
theorem numeral_plus_nodot (s : ByteArray) (r a b n c p e : Nat) (v : Value) (w : World) (hs0 : s.size ≤ 1000000) (hB : Lx w r s a v) (h43 : (((pk s a).toNat : Int) == 43) = true) (hb : b = a + 1) (hbs : b ≤ s.size) (hn : dgs (s.data.toList.drop b) = n) (hc : c = b + n) (hcs : c ≤ s.size) (h46 : (((pk s c).toNat : Int) == 46) = false) (he : c = e) :
    Calls Try.prog 60 #[.pointer (some ⟨r, 0, none⟩)] w fun e1 w' => e1 = .returned (.int .i64 (parseP (s.extract a e)).1) ∧ Lx w' r s e v ∧ Keeps (fun i => i = r) w w' := by
  have hsm : s.size ≤ maxLen := by unfold maxLen; omega
  have hsz : s.size ≤ 9223372036854775807 := by omega
  have hae : a ≤ e := by omega
  have haei : (a : Int) ≤ (e : Int) := by omega
  have hes : e ≤ s.size := by omega
  have hab : (a : Int) ≤ 1000000 := by omega
  have hcb : (c : Int) ≤ 1000000 := by omega
  have hpa := fun w hB => peek_any s r a 0 v w hsm (by omega) (by omega) hB
  have hpc := fun w hB => peek_any s r c 0 v w hsm hcs (by omega) hB
  have hpd := fun w hB => peek_any s r c 1 v w hsm hcs (by omega) hB
  have hrb := fun w hB => run_digit s r b v w hsm (by omega) hB
  rw [Nat.add_zero] at hpa hpc
  rw [runL_dgs, hn, ← hc] at hrb
  have hpar := fun w => Parse_any (s.extract a e) (by have : (s.extract a e).size ≤ s.size := by simp; omega
                                                      unfold maxLen; omega) w
  generalize parseP (s.extract a e) = PR at *
  generalize hx : pk s a = x at *
  generalize hy : pk s c = y at *
  subst hb
  subst he
  have HX := Lib.hid hB
  have HK := Lib.hid (Keeps.refl (fun i => i = r) w)
  clear hB hx hy hn hc hcs hbs
  go_enter Try.func60, Try.ntmps60
  have c0 := HX.out.cell 0
  have c1 : w.cell? ⟨r, 1, none⟩ = some (.int .i64 (a : Int)) := HX.out.cell 1
  have fz := HX.out.frozen
  have hrl := HX.out.lt
  go_wp2_with fail
  clear c0 c1 fz hrl
  refine (hpa _ HX.out).mono ?_; rintro e w2 ⟨rfl, hb2⟩
  have HK := Lib.hid (HK.out.then_ hb2)
  have HX := Lib.hid (HX.out.then_ hb2)
  clear hb2
  have c0 := HX.out.cell 0
  have c1 : w2.cell? ⟨r, 1, none⟩ = some (.int .i64 (a : Int)) := HX.out.cell 1
  have fz := HX.out.frozen
  have hrl := HX.out.lt
  go_wp2_with fail
  refine (hrb _ ?hx).mono ?_
  case hx => exact HX.out.put 1 _
  rintro e w2 ⟨rfl, hx2, hk2⟩
  have HK := Lib.hid ((Keeps.put (X := fun i => i = r) (p := ⟨r, 1, none⟩) HK.out (.inl rfl) _).trans hk2)
  have HX := Lib.hid hx2
  clear hx2 hk2 c0 c1 fz hrl
  go_wp2_with fail
  refine (hpc _ HX.out).mono ?_; rintro e w2 ⟨rfl, hb2⟩
  have HK := Lib.hid (HK.out.then_ hb2)
  have HX := Lib.hid (HX.out.then_ hb2)
  clear hb2
  have c0 := HX.out.cell 0
  have c1 : w2.cell? ⟨r, 1, none⟩ = some (.int .i64 (c : Int)) := HX.out.cell 1
  have fz := HX.out.frozen
  have hrl := HX.out.lt
  go_wp2_with fail
  refine wp_region_ext (by kernel_rfl) (by kernel_rfl) ?_
  repeat (go_big_quiet_step ((go_at_call 69; exact quiet_ext (hpar _))))
  refine wpQuiet_nil ?_
  intro w4 hw4
  have hb4 := (grown_rules hw4).2.2.2
  clear hw4 c0 c1 fz hrl
  have HK := Lib.hid (HK.out.then_ hb4)
  have HX := Lib.hid (HX.out.then_ hb4)
  clear hb4
  go_wp2_with fail
  go_ret
  exact ⟨rfl, HX.out, HK.out⟩

set_option maxHeartbeats 1000000 in
theorem numeral_minus_dot (s : ByteArray) (r a b n c p e : Nat) (v : Value) (w : World) (hs0 : s.size ≤ 1000000) (hB : Lx w r s a v) (h43 : (((pk s a).toNat : Int) == 43) = false) (h45 : (((pk s a).toNat : Int) == 45) = true) (hb : b = a + 1) (hbs : b ≤ s.size) (hn : dgs (s.data.toList.drop b) = n) (hc : c = b + n) (hcs : c ≤ s.size) (h46 : (((pk s c).toNat : Int) == 46) = true) (hdd : isD (pk s (c + 1)) = true) (hc1 : c + 1 ≤ s.size) (hp : dgs (s.data.toList.drop (c + 1)) = p) (he : e = c + 1 + p) (hes0 : e ≤ s.size) :
    Calls Try.prog 60 #[.pointer (some ⟨r, 0, none⟩)] w fun e1 w' => e1 = .returned (.int .i64 (parseP (s.extract a e)).1) ∧ Lx w' r s e v ∧ Keeps (fun i => i = r) w w' := by
  have hsm : s.size ≤ maxLen := by unfold maxLen; omega
  have hsz : s.size ≤ 9223372036854775807 := by omega
  have hae : a ≤ e := by omega
  have haei : (a : Int) ≤ (e : Int) := by omega
  have hes : e ≤ s.size := by omega
  have hab : (a : Int) ≤ 1000000 := by omega
  have hcb : (c : Int) ≤ 1000000 := by omega
  have hpa := fun w hB => peek_any s r a 0 v w hsm (by omega) (by omega) hB
  have hpc := fun w hB => peek_any s r c 0 v w hsm hcs (by omega) hB
  have hpd := fun w hB => peek_any s r c 1 v w hsm hcs (by omega) hB
  have hrb := fun w hB => run_digit s r b v w hsm (by omega) hB
  rw [Nat.add_zero] at hpa hpc
  rw [runL_dgs, hn, ← hc] at hrb
  have hpar := fun w => Parse_any (s.extract a e) (by have : (s.extract a e).size ≤ s.size := by simp; omega
                                                      unfold maxLen; omega) w
  generalize parseP (s.extract a e) = PR at *
  generalize hx : pk s a = x at *
  generalize hy : pk s c = y at *
  subst hb
  have hre := fun w hB => run_digit s r (c + 1) v w hsm hc1 hB
  rw [runL_dgs, hp, ← he] at hre
  have hdig := fun w => digit_any (pk s (c + 1)) w
  rw [hdd] at hdig
  clear hdd
  generalize pk s (c + 1) = z at *
  have HX := Lib.hid hB
  have HK := Lib.hid (Keeps.refl (fun i => i = r) w)
  clear hB hx hy hn hc hcs hbs hc1 hp he hes0
  go_enter Try.func60, Try.ntmps60
  have c0 := HX.out.cell 0
  have c1 : w.cell? ⟨r, 1, none⟩ = some (.int .i64 (a : Int)) := HX.out.cell 1
  have fz := HX.out.frozen
  have hrl := HX.out.lt
  go_wp2_with fail
  clear c0 c1 fz hrl
  refine (hpa _ HX.out).mono ?_; rintro e w2 ⟨rfl, hb2⟩
  have HK := Lib.hid (HK.out.then_ hb2)
  have HX := Lib.hid (HX.out.then_ hb2)
  clear hb2
  have c0 := HX.out.cell 0
  have c1 : w2.cell? ⟨r, 1, none⟩ = some (.int .i64 (a : Int)) := HX.out.cell 1
  have fz := HX.out.frozen
  have hrl := HX.out.lt
  go_wp2_with fail
  refine (hrb _ ?hx).mono ?_
  case hx => exact HX.out.put 1 _
  rintro e w2 ⟨rfl, hx2, hk2⟩
  have HK := Lib.hid ((Keeps.put (X := fun i => i = r) (p := ⟨r, 1, none⟩) HK.out (.inl rfl) _).trans hk2)
  have HX := Lib.hid hx2
  clear hx2 hk2 c0 c1 fz hrl
  go_wp2_with fail
  refine (hpc _ HX.out).mono ?_; rintro e w2 ⟨rfl, hb2⟩
  have HK := Lib.hid (HK.out.then_ hb2)
  have HX := Lib.hid (HX.out.then_ hb2)
  clear hb2
  go_wp2_with fail
  refine (hpd _ HX.out).mono ?_; rintro e w2 ⟨rfl, hb2⟩
  have HK := Lib.hid (HK.out.then_ hb2)
  have HX := Lib.hid (HX.out.then_ hb2)
  clear hb2
  go_wp2_with fail
  refine (hdig _).mono ?_; rintro e1 w' ⟨rfl, rfl⟩
  have c0 := HX.out.cell 0
  have c1 : w2.cell? ⟨r, 1, none⟩ = some (.int .i64 (c : Int)) := HX.out.cell 1
  have fz := HX.out.frozen
  have hrl := HX.out.lt
  go_wp2_with fail
  refine (hre _ ?hx).mono ?_
  case hx => exact HX.out.put 1 _
  rintro e w2 ⟨rfl, hx2, hk2⟩
  have HK := Lib.hid ((Keeps.put (X := fun i => i = r) (p := ⟨r, 1, none⟩) HK.out (.inl rfl) _).trans hk2)
  have HX := Lib.hid hx2
  clear hx2 hk2 c0 c1 fz hrl
  have c0 := HX.out.cell 0
  have c1 : w2.cell? ⟨r, 1, none⟩ = some (.int .i64 (e : Int)) := HX.out.cell 1
  have fz := HX.out.frozen
  have hrl := HX.out.lt
  go_wp2_with fail
  refine wp_region_ext (by kernel_rfl) (by kernel_rfl) ?_
  repeat (go_big_quiet_step ((go_at_call 69; exact quiet_ext (hpar _))))
  refine wpQuiet_nil ?_
  intro w4 hw4
  have hb4 := (grown_rules hw4).2.2.2
  clear hw4 c0 c1 fz hrl
  have HK := Lib.hid (HK.out.then_ hb4)
  have HX := Lib.hid (HX.out.then_ hb4)
  clear hb4
  go_wp2_with fail
  go_ret
  exact ⟨rfl, HX.out, HK.out⟩

set_option maxHeartbeats 1000000 in
theorem numeral_minus_nodig (s : ByteArray) (r a b n c p e : Nat) (v : Value) (w : World) (hs0 : s.size ≤ 1000000) (hB : Lx w r s a v) (h43 : (((pk s a).toNat : Int) == 43) = false) (h45 : (((pk s a).toNat : Int) == 45) = true) (hb : b = a + 1) (hbs : b ≤ s.size) (hn : dgs (s.data.toList.drop b) = n) (hc : c = b + n) (hcs : c ≤ s.size) (h46 : (((pk s c).toNat : Int) == 46) = true) (hdd : isD (pk s (c + 1)) = false) (he : c = e) :
    Calls Try.prog 60 #[.pointer (some ⟨r, 0, none⟩)] w fun e1 w' => e1 = .returned (.int .i64 (parseP (s.extract a e)).1) ∧ Lx w' r s e v ∧ Keeps (fun i => i = r) w w' := by
  have hsm : s.size ≤ maxLen := by unfold maxLen; omega
  have hsz : s.size ≤ 9223372036854775807 := by omega
  have hae : a ≤ e := by omega
  have haei : (a : Int) ≤ (e : Int) := by omega
  have hes : e ≤ s.size := by omega
  have hab : (a : Int) ≤ 1000000 := by omega
  have hcb : (c : Int) ≤ 1000000 := by omega
  have hpa := fun w hB => peek_any s r a 0 v w hsm (by omega) (by omega) hB
  have hpc := fun w hB => peek_any s r c 0 v w hsm hcs (by omega) hB
  have hpd := fun w hB => peek_any s r c 1 v w hsm hcs (by omega) hB
  have hrb := fun w hB => run_digit s r b v w hsm (by omega) hB
  rw [Nat.add_zero] at hpa hpc
  rw [runL_dgs, hn, ← hc] at hrb
  have hpar := fun w => Parse_any (s.extract a e) (by have : (s.extract a e).size ≤ s.size := by simp; omega
                                                      unfold maxLen; omega) w
  generalize parseP (s.extract a e) = PR at *
  generalize hx : pk s a = x at *
  generalize hy : pk s c = y at *
  subst hb
  have hdig := fun w => digit_any (pk s (c + 1)) w
  rw [hdd] at hdig
  clear hdd
  generalize pk s (c + 1) = z at *
  subst he
  have HX := Lib.hid hB
  have HK := Lib.hid (Keeps.refl (fun i => i = r) w)
  clear hB hx hy hn hc hcs hbs
  go_enter Try.func60, Try.ntmps60
  have c0 := HX.out.cell 0
  have c1 : w.cell? ⟨r, 1, none⟩ = some (.int .i64 (a : Int)) := HX.out.cell 1
  have fz := HX.out.frozen
  have hrl := HX.out.lt
  go_wp2_with fail
  clear c0 c1 fz hrl
  refine (hpa _ HX.out).mono ?_; rintro e w2 ⟨rfl, hb2⟩
  have HK := Lib.hid (HK.out.then_ hb2)
  have HX := Lib.hid (HX.out.then_ hb2)
  clear hb2
  have c0 := HX.out.cell 0
  have c1 : w2.cell? ⟨r, 1, none⟩ = some (.int .i64 (a : Int)) := HX.out.cell 1
  have fz := HX.out.frozen
  have hrl := HX.out.lt
  go_wp2_with fail
  refine (hrb _ ?hx).mono ?_
  case hx => exact HX.out.put 1 _
  rintro e w2 ⟨rfl, hx2, hk2⟩
  have HK := Lib.hid ((Keeps.put (X := fun i => i = r) (p := ⟨r, 1, none⟩) HK.out (.inl rfl) _).trans hk2)
  have HX := Lib.hid hx2
  clear hx2 hk2 c0 c1 fz hrl
  go_wp2_with fail
  refine (hpc _ HX.out).mono ?_; rintro e w2 ⟨rfl, hb2⟩
  have HK := Lib.hid (HK.out.then_ hb2)
  have HX := Lib.hid (HX.out.then_ hb2)
  clear hb2
  go_wp2_with fail
  refine (hpd _ HX.out).mono ?_; rintro e w2 ⟨rfl, hb2⟩
  have HK := Lib.hid (HK.out.then_ hb2)
  have HX := Lib.hid (HX.out.then_ hb2)
  clear hb2
  go_wp2_with fail
  refine (hdig _).mono ?_; rintro e1 w' ⟨rfl, rfl⟩
  have c0 := HX.out.cell 0
  have c1 : w2.cell? ⟨r, 1, none⟩ = some (.int .i64 (c : Int)) := HX.out.cell 1
  have fz := HX.out.frozen
  have hrl := HX.out.lt
  go_wp2_with fail
  refine wp_region_ext (by kernel_rfl) (by kernel_rfl) ?_
  repeat (go_big_quiet_step ((go_at_call 69; exact quiet_ext (hpar _))))
  refine wpQuiet_nil ?_
  intro w4 hw4
  have hb4 := (grown_rules hw4).2.2.2
  clear hw4 c0 c1 fz hrl
  have HK := Lib.hid (HK.out.then_ hb4)
  have HX := Lib.hid (HX.out.then_ hb4)
  clear hb4
  go_wp2_with fail
  go_ret
  exact ⟨rfl, HX.out, HK.out⟩

set_option maxHeartbeats 1000000 in
theorem numeral_minus_nodot (s : ByteArray) (r a b n c p e : Nat) (v : Value) (w : World) (hs0 : s.size ≤ 1000000) (hB : Lx w r s a v) (h43 : (((pk s a).toNat : Int) == 43) = false) (h45 : (((pk s a).toNat : Int) == 45) = true) (hb : b = a + 1) (hbs : b ≤ s.size) (hn : dgs (s.data.toList.drop b) = n) (hc : c = b + n) (hcs : c ≤ s.size) (h46 : (((pk s c).toNat : Int) == 46) = false) (he : c = e) :
    Calls Try.prog 60 #[.pointer (some ⟨r, 0, none⟩)] w fun e1 w' => e1 = .returned (.int .i64 (parseP (s.extract a e)).1) ∧ Lx w' r s e v ∧ Keeps (fun i => i = r) w w' := by
  have hsm : s.size ≤ maxLen := by unfold maxLen; omega
  have hsz : s.size ≤ 9223372036854775807 := by omega
  have hae : a ≤ e := by omega
  have haei : (a : Int) ≤ (e : Int) := by omega
  have hes : e ≤ s.size := by omega
  have hab : (a : Int) ≤ 1000000 := by omega
  have hcb : (c : Int) ≤ 1000000 := by omega
  have hpa := fun w hB => peek_any s r a 0 v w hsm (by omega) (by omega) hB
  have hpc := fun w hB => peek_any s r c 0 v w hsm hcs (by omega) hB
  have hpd := fun w hB => peek_any s r c 1 v w hsm hcs (by omega) hB
  have hrb := fun w hB => run_digit s r b v w hsm (by omega) hB
  rw [Nat.add_zero] at hpa hpc
  rw [runL_dgs, hn, ← hc] at hrb
  have hpar := fun w => Parse_any (s.extract a e) (by have : (s.extract a e).size ≤ s.size := by simp; omega
                                                      unfold maxLen; omega) w
  generalize parseP (s.extract a e) = PR at *
  generalize hx : pk s a = x at *
  generalize hy : pk s c = y at *
  subst hb
  subst he
  have HX := Lib.hid hB
  have HK := Lib.hid (Keeps.refl (fun i => i = r) w)
  clear hB hx hy hn hc hcs hbs
  go_enter Try.func60, Try.ntmps60
  have c0 := HX.out.cell 0
  have c1 : w.cell? ⟨r, 1, none⟩ = some (.int .i64 (a : Int)) := HX.out.cell 1
  have fz := HX.out.frozen
  have hrl := HX.out.lt
  go_wp2_with fail
  clear c0 c1 fz hrl
  refine (hpa _ HX.out).mono ?_; rintro e w2 ⟨rfl, hb2⟩
  have HK := Lib.hid (HK.out.then_ hb2)
  have HX := Lib.hid (HX.out.then_ hb2)
  clear hb2
  have c0 := HX.out.cell 0
  have c1 : w2.cell? ⟨r, 1, none⟩ = some (.int .i64 (a : Int)) := HX.out.cell 1
  have fz := HX.out.frozen
  have hrl := HX.out.lt
  go_wp2_with fail
  refine (hrb _ ?hx).mono ?_
  case hx => exact HX.out.put 1 _
  rintro e w2 ⟨rfl, hx2, hk2⟩
  have HK := Lib.hid ((Keeps.put (X := fun i => i = r) (p := ⟨r, 1, none⟩) HK.out (.inl rfl) _).trans hk2)
  have HX := Lib.hid hx2
  clear hx2 hk2 c0 c1 fz hrl
  go_wp2_with fail
  refine (hpc _ HX.out).mono ?_; rintro e w2 ⟨rfl, hb2⟩
  have HK := Lib.hid (HK.out.then_ hb2)
  have HX := Lib.hid (HX.out.then_ hb2)
  clear hb2
  have c0 := HX.out.cell 0
  have c1 : w2.cell? ⟨r, 1, none⟩ = some (.int .i64 (c : Int)) := HX.out.cell 1
  have fz := HX.out.frozen
  have hrl := HX.out.lt
  go_wp2_with fail
  refine wp_region_ext (by kernel_rfl) (by kernel_rfl) ?_
  repeat (go_big_quiet_step ((go_at_call 69; exact quiet_ext (hpar _))))
  refine wpQuiet_nil ?_
  intro w4 hw4
  have hb4 := (grown_rules hw4).2.2.2
  clear hw4 c0 c1 fz hrl
  have HK := Lib.hid (HK.out.then_ hb4)
  have HX := Lib.hid (HX.out.then_ hb4)
  clear hb4
  go_wp2_with fail
  go_ret
  exact ⟨rfl, HX.out, HK.out⟩

set_option maxHeartbeats 1000000 in
theorem numeral_bare_dot (s : ByteArray) (r a b n c p e : Nat) (v : Value) (w : World) (hs0 : s.size ≤ 1000000) (hB : Lx w r s a v) (h43 : (((pk s a).toNat : Int) == 43) = false) (h45 : (((pk s a).toNat : Int) == 45) = false) (hb : a = b) (hbs : b ≤ s.size) (hn : dgs (s.data.toList.drop b) = n) (hc : c = b + n) (hcs : c ≤ s.size) (h46 : (((pk s c).toNat : Int) == 46) = true) (hdd : isD (pk s (c + 1)) = true) (hc1 : c + 1 ≤ s.size) (hp : dgs (s.data.toList.drop (c + 1)) = p) (he : e = c + 1 + p) (hes0 : e ≤ s.size) :
    Calls Try.prog 60 #[.pointer (some ⟨r, 0, none⟩)] w fun e1 w' => e1 = .returned (.int .i64 (parseP (s.extract a e)).1) ∧ Lx w' r s e v ∧ Keeps (fun i => i = r) w w' := by
  have hsm : s.size ≤ maxLen := by unfold maxLen; omega
  have hsz : s.size ≤ 9223372036854775807 := by omega
  have hae : a ≤ e := by omega
  have haei : (a : Int) ≤ (e : Int) := by omega
  have hes : e ≤ s.size := by omega
  have hab : (a : Int) ≤ 1000000 := by omega
  have hcb : (c : Int) ≤ 1000000 := by omega
  have hpa := fun w hB => peek_any s r a 0 v w hsm (by omega) (by omega) hB
  have hpc := fun w hB => peek_any s r c 0 v w hsm hcs (by omega) hB
  have hpd := fun w hB => peek_any s r c 1 v w hsm hcs (by omega) hB
  have hrb := fun w hB => run_digit s r b v w hsm (by omega) hB
  rw [Nat.add_zero] at hpa hpc
  rw [runL_dgs, hn, ← hc] at hrb
  have hpar := fun w => Parse_any (s.extract a e) (by have : (s.extract a e).size ≤ s.size := by simp; omega
                                                      unfold maxLen; omega) w
  generalize parseP (s.extract a e) = PR at *
  generalize hx : pk s a = x at *
  generalize hy : pk s c = y at *
  subst hb
  have hre := fun w hB => run_digit s r (c + 1) v w hsm hc1 hB
  rw [runL_dgs, hp, ← he] at hre
  have hdig := fun w => digit_any (pk s (c + 1)) w
  rw [hdd] at hdig
  clear hdd
  generalize pk s (c + 1) = z at *
  have HX := Lib.hid hB
  have HK := Lib.hid (Keeps.refl (fun i => i = r) w)
  clear hB hx hy hn hc hcs hbs hc1 hp he hes0
  go_enter Try.func60, Try.ntmps60
  have c0 := HX.out.cell 0
  have c1 : w.cell? ⟨r, 1, none⟩ = some (.int .i64 (a : Int)) := HX.out.cell 1
  have fz := HX.out.frozen
  have hrl := HX.out.lt
  go_wp2_with fail
  clear c0 c1 fz hrl
  refine (hpa _ HX.out).mono ?_; rintro e w2 ⟨rfl, hb2⟩
  have HK := Lib.hid (HK.out.then_ hb2)
  have HX := Lib.hid (HX.out.then_ hb2)
  clear hb2
  go_wp2_with fail
  refine (hrb _ HX.out).mono ?_; rintro e w2 ⟨rfl, hx2, hk2⟩
  have HK := Lib.hid (HK.out.trans hk2)
  have HX := Lib.hid hx2
  clear hx2 hk2
  go_wp2_with fail
  refine (hpc _ HX.out).mono ?_; rintro e w2 ⟨rfl, hb2⟩
  have HK := Lib.hid (HK.out.then_ hb2)
  have HX := Lib.hid (HX.out.then_ hb2)
  clear hb2
  go_wp2_with fail
  refine (hpd _ HX.out).mono ?_; rintro e w2 ⟨rfl, hb2⟩
  have HK := Lib.hid (HK.out.then_ hb2)
  have HX := Lib.hid (HX.out.then_ hb2)
  clear hb2
  go_wp2_with fail
  refine (hdig _).mono ?_; rintro e1 w' ⟨rfl, rfl⟩
  have c0 := HX.out.cell 0
  have c1 : w2.cell? ⟨r, 1, none⟩ = some (.int .i64 (c : Int)) := HX.out.cell 1
  have fz := HX.out.frozen
  have hrl := HX.out.lt
  go_wp2_with fail
  refine (hre _ ?hx).mono ?_
  case hx => exact HX.out.put 1 _
  rintro e w2 ⟨rfl, hx2, hk2⟩
  have HK := Lib.hid ((Keeps.put (X := fun i => i = r) (p := ⟨r, 1, none⟩) HK.out (.inl rfl) _).trans hk2)
  have HX := Lib.hid hx2
  clear hx2 hk2 c0 c1 fz hrl
  have c0 := HX.out.cell 0
  have c1 : w2.cell? ⟨r, 1, none⟩ = some (.int .i64 (e : Int)) := HX.out.cell 1
  have fz := HX.out.frozen
  have hrl := HX.out.lt
  go_wp2_with fail
  refine wp_region_ext (by kernel_rfl) (by kernel_rfl) ?_
  repeat (go_big_quiet_step ((go_at_call 69; exact quiet_ext (hpar _))))
  refine wpQuiet_nil ?_
  intro w4 hw4
  have hb4 := (grown_rules hw4).2.2.2
  clear hw4 c0 c1 fz hrl
  have HK := Lib.hid (HK.out.then_ hb4)
  have HX := Lib.hid (HX.out.then_ hb4)
  clear hb4
  go_wp2_with fail
  go_ret
  exact ⟨rfl, HX.out, HK.out⟩

set_option maxHeartbeats 1000000 in
theorem numeral_bare_nodig (s : ByteArray) (r a b n c p e : Nat) (v : Value) (w : World) (hs0 : s.size ≤ 1000000) (hB : Lx w r s a v) (h43 : (((pk s a).toNat : Int) == 43) = false) (h45 : (((pk s a).toNat : Int) == 45) = false) (hb : a = b) (hbs : b ≤ s.size) (hn : dgs (s.data.toList.drop b) = n) (hc : c = b + n) (hcs : c ≤ s.size) (h46 : (((pk s c).toNat : Int) == 46) = true) (hdd : isD (pk s (c + 1)) = false) (he : c = e) :
    Calls Try.prog 60 #[.pointer (some ⟨r, 0, none⟩)] w fun e1 w' => e1 = .returned (.int .i64 (parseP (s.extract a e)).1) ∧ Lx w' r s e v ∧ Keeps (fun i => i = r) w w' := by
  have hsm : s.size ≤ maxLen := by unfold maxLen; omega
  have hsz : s.size ≤ 9223372036854775807 := by omega
  have hae : a ≤ e := by omega
  have haei : (a : Int) ≤ (e : Int) := by omega
  have hes : e ≤ s.size := by omega
  have hab : (a : Int) ≤ 1000000 := by omega
  have hcb : (c : Int) ≤ 1000000 := by omega
  have hpa := fun w hB => peek_any s r a 0 v w hsm (by omega) (by omega) hB
  have hpc := fun w hB => peek_any s r c 0 v w hsm hcs (by omega) hB
  have hpd := fun w hB => peek_any s r c 1 v w hsm hcs (by omega) hB
  have hrb := fun w hB => run_digit s r b v w hsm (by omega) hB
  rw [Nat.add_zero] at hpa hpc
  rw [runL_dgs, hn, ← hc] at hrb
  have hpar := fun w => Parse_any (s.extract a e) (by have : (s.extract a e).size ≤ s.size := by simp; omega
                                                      unfold maxLen; omega) w
  generalize parseP (s.extract a e) = PR at *
  generalize hx : pk s a = x at *
  generalize hy : pk s c = y at *
  subst hb
  have hdig := fun w => digit_any (pk s (c + 1)) w
  rw [hdd] at hdig
  clear hdd
  generalize pk s (c + 1) = z at *
  subst he
  have HX := Lib.hid hB
  have HK := Lib.hid (Keeps.refl (fun i => i = r) w)
  clear hB hx hy hn hc hcs hbs
  go_enter Try.func60, Try.ntmps60
  have c0 := HX.out.cell 0
  have c1 : w.cell? ⟨r, 1, none⟩ = some (.int .i64 (a : Int)) := HX.out.cell 1
  have fz := HX.out.frozen
  have hrl := HX.out.lt
  go_wp2_with fail
  clear c0 c1 fz hrl
  refine (hpa _ HX.out).mono ?_; rintro e w2 ⟨rfl, hb2⟩
  have HK := Lib.hid (HK.out.then_ hb2)
  have HX := Lib.hid (HX.out.then_ hb2)
  clear hb2
  go_wp2_with fail
  refine (hrb _ HX.out).mono ?_; rintro e w2 ⟨rfl, hx2, hk2⟩
  have HK := Lib.hid (HK.out.trans hk2)
  have HX := Lib.hid hx2
  clear hx2 hk2
  go_wp2_with fail
  refine (hpc _ HX.out).mono ?_; rintro e w2 ⟨rfl, hb2⟩
  have HK := Lib.hid (HK.out.then_ hb2)
  have HX := Lib.hid (HX.out.then_ hb2)
  clear hb2
  go_wp2_with fail
  refine (hpd _ HX.out).mono ?_; rintro e w2 ⟨rfl, hb2⟩
  have HK := Lib.hid (HK.out.then_ hb2)
  have HX := Lib.hid (HX.out.then_ hb2)
  clear hb2
  go_wp2_with fail
  refine (hdig _).mono ?_; rintro e1 w' ⟨rfl, rfl⟩
  have c0 := HX.out.cell 0
  have c1 : w2.cell? ⟨r, 1, none⟩ = some (.int .i64 (c : Int)) := HX.out.cell 1
  have fz := HX.out.frozen
  have hrl := HX.out.lt
  go_wp2_with fail
  refine wp_region_ext (by kernel_rfl) (by kernel_rfl) ?_
  repeat (go_big_quiet_step ((go_at_call 69; exact quiet_ext (hpar _))))
  refine wpQuiet_nil ?_
  intro w4 hw4
  have hb4 := (grown_rules hw4).2.2.2
  clear hw4 c0 c1 fz hrl
  have HK := Lib.hid (HK.out.then_ hb4)
  have HX := Lib.hid (HX.out.then_ hb4)
  clear hb4
  go_wp2_with fail
  go_ret
  exact ⟨rfl, HX.out, HK.out⟩

set_option maxHeartbeats 1000000 in
theorem numeral_bare_nodot (s : ByteArray) (r a b n c p e : Nat) (v : Value) (w : World) (hs0 : s.size ≤ 1000000) (hB : Lx w r s a v) (h43 : (((pk s a).toNat : Int) == 43) = false) (h45 : (((pk s a).toNat : Int) == 45) = false) (hb : a = b) (hbs : b ≤ s.size) (hn : dgs (s.data.toList.drop b) = n) (hc : c = b + n) (hcs : c ≤ s.size) (h46 : (((pk s c).toNat : Int) == 46) = false) (he : c = e) :
    Calls Try.prog 60 #[.pointer (some ⟨r, 0, none⟩)] w fun e1 w' => e1 = .returned (.int .i64 (parseP (s.extract a e)).1) ∧ Lx w' r s e v ∧ Keeps (fun i => i = r) w w' := by
  have hsm : s.size ≤ maxLen := by unfold maxLen; omega
  have hsz : s.size ≤ 9223372036854775807 := by omega
  have hae : a ≤ e := by omega
  have haei : (a : Int) ≤ (e : Int) := by omega
  have hes : e ≤ s.size := by omega
  have hab : (a : Int) ≤ 1000000 := by omega
  have hcb : (c : Int) ≤ 1000000 := by omega
  have hpa := fun w hB => peek_any s r a 0 v w hsm (by omega) (by omega) hB
  have hpc := fun w hB => peek_any s r c 0 v w hsm hcs (by omega) hB
  have hpd := fun w hB => peek_any s r c 1 v w hsm hcs (by omega) hB
  have hrb := fun w hB => run_digit s r b v w hsm (by omega) hB
  rw [Nat.add_zero] at hpa hpc
  rw [runL_dgs, hn, ← hc] at hrb
  have hpar := fun w => Parse_any (s.extract a e) (by have : (s.extract a e).size ≤ s.size := by simp; omega
                                                      unfold maxLen; omega) w
  generalize parseP (s.extract a e) = PR at *
  generalize hx : pk s a = x at *
  generalize hy : pk s c = y at *
  subst hb
  subst he
  have HX := Lib.hid hB
  have HK := Lib.hid (Keeps.refl (fun i => i = r) w)
  clear hB hx hy hn hc hcs hbs
  go_enter Try.func60, Try.ntmps60
  have c0 := HX.out.cell 0
  have c1 : w.cell? ⟨r, 1, none⟩ = some (.int .i64 (a : Int)) := HX.out.cell 1
  have fz := HX.out.frozen
  have hrl := HX.out.lt
  go_wp2_with fail
  clear c0 c1 fz hrl
  refine (hpa _ HX.out).mono ?_; rintro e w2 ⟨rfl, hb2⟩
  have HK := Lib.hid (HK.out.then_ hb2)
  have HX := Lib.hid (HX.out.then_ hb2)
  clear hb2
  go_wp2_with fail
  refine (hrb _ HX.out).mono ?_; rintro e w2 ⟨rfl, hx2, hk2⟩
  have HK := Lib.hid (HK.out.trans hk2)
  have HX := Lib.hid hx2
  clear hx2 hk2
  go_wp2_with fail
  refine (hpc _ HX.out).mono ?_; rintro e w2 ⟨rfl, hb2⟩
  have HK := Lib.hid (HK.out.then_ hb2)
  have HX := Lib.hid (HX.out.then_ hb2)
  clear hb2
  have c0 := HX.out.cell 0
  have c1 : w2.cell? ⟨r, 1, none⟩ = some (.int .i64 (c : Int)) := HX.out.cell 1
  have fz := HX.out.frozen
  have hrl := HX.out.lt
  go_wp2_with fail
  refine wp_region_ext (by kernel_rfl) (by kernel_rfl) ?_
  repeat (go_big_quiet_step ((go_at_call 69; exact quiet_ext (hpar _))))
  refine wpQuiet_nil ?_
  intro w4 hw4
  have hb4 := (grown_rules hw4).2.2.2
  clear hw4 c0 c1 fz hrl
  have HK := Lib.hid (HK.out.then_ hb4)
  have HX := Lib.hid (HX.out.then_ hb4)
  clear hb4
  go_wp2_with fail
  go_ret
  exact ⟨rfl, HX.out, HK.out⟩

end Go.Proofs.Ytmicgfpiknibhaa
