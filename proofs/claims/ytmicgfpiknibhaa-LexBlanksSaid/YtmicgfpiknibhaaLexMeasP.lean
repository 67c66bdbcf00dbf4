/- The lexer takes a measure. -/
import Derived.Test.YtmicgfpiknibhaaLexToken
namespace Go.Proofs.Ytmicgfpiknibhaa
open Go.RowKit
set_option linter.unusedSimpArgs false
set_option linter.unusedVariables false
attribute [local go_sem] cell?_ext frozen?_ext lt_size_ext

theorem dgs_min : ∀ (l : List UInt8) (m : Nat), dgs (l.take m) = min m (dgs l)
  | [], m => by simp [dgs]
  | c :: t, 0 => by simp [dgs]
  | c :: t, m + 1 => by
    rw [List.take_succ_cons, dgs, dgs, dgs_min t m]
    split <;> omega
theorem dotted_take (l : List UInt8) (m : Nat) (h : 0 < m) : dotted (l.take m) = dotted l := by
  cases l with
  | nil => simp
  | cons c t => cases m with
    | zero => omega
    | succ m => rw [List.take_succ_cons]; rfl
theorem sgn_take (l : List UInt8) (m : Nat) (h : 0 < m) : sgn (l.take m) = sgn l := by
  cases l with
  | nil => simp
  | cons c t => cases m with
    | zero => omega
    | succ m => rw [List.take_succ_cons]; rfl
/-- A number's text is a number's text as a whole. -/
theorem num_take (l : List UInt8) (h0 : 0 < num l) : num (l.take (num l)) = num l := by
  obtain ⟨m, hm⟩ : ∃ m, m = num l := ⟨_, rfl⟩
  rw [← hm] at h0 ⊢
  have hs := sgn_take l m h0
  have hm2 := hm
  unfold num at hm2 ⊢
  dsimp only at hm2 ⊢
  rw [hs]
  generalize hg : sgn l = g at *
  simp only [List.drop_take, List.drop_drop] at *
  generalize hn : dgs (l.drop g) = n at *
  generalize hp : dgs (l.drop (g + n + 1)) = p at *
  by_cases hd : dotted (l.drop (g + n)) = true ∧ 0 < p
  · rw [if_pos hd] at hm2
    have e1 : dgs ((l.drop g).take (m - g)) = n := by rw [dgs_min, hn]; omega
    have e2 : dotted ((l.drop (g + n)).take (m - (g + n))) = true := by rw [dotted_take _ _ (by omega)]; exact hd.1
    have e3 : dgs ((l.drop (g + n + 1)).take (m - (g + n + 1))) = p := by rw [dgs_min, hp]; omega
    rw [e1, e2, e3, if_pos ⟨rfl, hd.2⟩]; exact hm2.symm
  · rw [if_neg hd] at hm2
    have hn0 : ¬ n = 0 := fun e => by rw [if_pos e] at hm2; omega
    rw [if_neg hn0] at hm2
    have e1 : dgs ((l.drop g).take (m - g)) = n := by rw [dgs_min, hn]; omega
    have e2 : dotted ((l.drop (g + n)).take (m - (g + n))) = false := by rw [show m - (g + n) = 0 by omega, List.take_zero]; rfl
    rw [e1, e2, if_neg (by simp), if_neg hn0]; exact hm2.symm

theorem parse_cut (s : ByteArray) (a e : Nat) (h : e = a + num (s.data.toList.drop a)) (h0 : 0 < num (s.data.toList.drop a)) : (parseP (s.extract a e)).1 = worth ((s.data.toList.drop a).take (num (s.data.toList.drop a))) := by
  have hle := num_le (s.data.toList.drop a)
  rw [parseP_eq, ext_data, show e - a = num (s.data.toList.drop a) by omega]
  unfold rparse
  rw [if_neg]
  rw [num_take _ h0, List.length_take]
  omega

theorem numeral_any (s : ByteArray) (r a : Nat) (v : Value) (w : World) (hs0 : s.size ≤ 1000000) (ha : a ≤ s.size) (h0 : 0 < num (s.data.toList.drop a)) (hB : Lx w r s a v) :
    Calls Try.prog 60 #[.pointer (some ⟨r, 0, none⟩)] w fun e1 w' => e1 = .returned (.int .i64 (worth ((s.data.toList.drop a).take (num (s.data.toList.drop a))))) ∧ Lx w' r s (a + num (s.data.toList.drop a)) v ∧ Keeps (fun i => i = r) w w' := by
  rw [← parse_cut s a _ rfl h0]
  have hle := num_le (s.data.toList.drop a)
  rw [List.length_drop, len_data] at hle
  have hnum : num (s.data.toList.drop a) = num (s.data.toList.drop a) := rfl
  conv at hnum => rhs; unfold num
  dsimp only at hnum
  have hsg := sgn_pk s a
  have hsl : a + sgn (s.data.toList.drop a) ≤ s.size := by
    rw [hsg]; split
    · rename_i h
      by_cases hlt : a < s.size
      · omega
      · rw [pk_end hlt] at h; rcases h with h | h <;> exact absurd h (by decide)
    · omega
  generalize num (s.data.toList.drop a) = N at *
  generalize hg : sgn (s.data.toList.drop a) = g at *
  obtain ⟨b, hb⟩ : ∃ b, b = a + g := ⟨_, rfl⟩
  simp only [List.drop_drop, ← Nat.add_assoc, ← hb] at hnum
  rw [← hb] at hsl
  obtain ⟨n, hn⟩ : ∃ n, dgs (s.data.toList.drop b) = n := ⟨_, rfl⟩
  have hcs := dgs_drop s b hsl
  rw [hn] at hnum hcs
  obtain ⟨c, hc⟩ : ∃ c, c = b + n := ⟨_, rfl⟩
  rw [← hc] at hnum hcs
  obtain ⟨p, hp⟩ : ∃ p, dgs (s.data.toList.drop (c + 1)) = p := ⟨_, rfl⟩
  have hdp := dgs_pk s (c + 1)
  rw [hp] at hnum hdp
  rw [dotted_pk] at hnum
  have b46 : ((((pk s c).toNat : Nat) : Int) == 46) = decide ((pk s c).toNat = 46) := byte_eq _ 46
  have b43 : ((((pk s a).toNat : Nat) : Int) == 43) = decide ((pk s a).toNat = 43) := byte_eq _ 43
  have b45 : ((((pk s a).toNat : Nat) : Int) == 45) = decide ((pk s a).toNat = 45) := byte_eq _ 45
  have hlt : (pk s c).toNat = 46 → c < s.size := fun h => by
    by_cases hlt : c < s.size
    · exact hlt
    · rw [pk_end hlt] at h; exact absurd h (by decide)
  by_cases h46 : (pk s c).toNat = 46
  · rw [decide_eq_true h46] at b46 hnum
    have hc1 := hlt h46
    by_cases hp0 : 0 < p
    · rw [if_pos ⟨rfl, hp0⟩] at hnum
      have hdd := hdp.1 hp0
      have he := dgs_drop s (c + 1) (by omega)
      rw [hp] at he
      by_cases h43 : (pk s a).toNat = 43
      · rw [if_pos (.inl h43)] at hsg
        exact numeral_plus_dot s r a b n c p _ v w hs0 hB (b43.trans (decide_eq_true h43)) (by omega) hsl hn hc hcs b46 hdd (by omega) hp (by omega) (by omega)
      · by_cases h45 : (pk s a).toNat = 45
        · rw [if_pos (.inr h45)] at hsg
          exact numeral_minus_dot s r a b n c p _ v w hs0 hB (b43.trans (decide_eq_false h43)) (b45.trans (decide_eq_true h45)) (by omega) hsl hn hc hcs b46 hdd (by omega) hp (by omega) (by omega)
        · rw [if_neg (by omega)] at hsg
          exact numeral_bare_dot s r a b n c p _ v w hs0 hB (b43.trans (decide_eq_false h43)) (b45.trans (decide_eq_false h45)) (by omega) hsl hn hc hcs b46 hdd (by omega) hp (by omega) (by omega)
    · have hdd : isD (pk s (c + 1)) = false := by cases h : isD (pk s (c + 1)) with
        | false => rfl
        | true => exact absurd (hdp.2 h) hp0
      rw [if_neg (by omega)] at hnum
      have hn0 : ¬ n = 0 := fun e => by rw [if_pos e] at hnum; omega
      rw [if_neg hn0] at hnum
      by_cases h43 : (pk s a).toNat = 43
      · rw [if_pos (.inl h43)] at hsg
        exact numeral_plus_nodig s r a b n c p _ v w hs0 hB (b43.trans (decide_eq_true h43)) (by omega) hsl hn hc hcs b46 hdd (by omega)
      · by_cases h45 : (pk s a).toNat = 45
        · rw [if_pos (.inr h45)] at hsg
          exact numeral_minus_nodig s r a b n c p _ v w hs0 hB (b43.trans (decide_eq_false h43)) (b45.trans (decide_eq_true h45)) (by omega) hsl hn hc hcs b46 hdd (by omega)
        · rw [if_neg (by omega)] at hsg
          exact numeral_bare_nodig s r a b n c p _ v w hs0 hB (b43.trans (decide_eq_false h43)) (b45.trans (decide_eq_false h45)) (by omega) hsl hn hc hcs b46 hdd (by omega)
  · rw [decide_eq_false h46] at b46 hnum
    rw [if_neg (by simp)] at hnum
    have hn0 : ¬ n = 0 := fun e => by rw [if_pos e] at hnum; omega
    rw [if_neg hn0] at hnum
    by_cases h43 : (pk s a).toNat = 43
    · rw [if_pos (.inl h43)] at hsg
      exact numeral_plus_nodot s r a b n c p _ v w hs0 hB (b43.trans (decide_eq_true h43)) (by omega) hsl hn hc hcs b46 (by omega)
    · by_cases h45 : (pk s a).toNat = 45
      · rw [if_pos (.inr h45)] at hsg
        exact numeral_minus_nodot s r a b n c p _ v w hs0 hB (b43.trans (decide_eq_false h43)) (b45.trans (decide_eq_true h45)) (by omega) hsl hn hc hcs b46 (by omega)
      · rw [if_neg (by omega)] at hsg
        exact numeral_bare_nodot s r a b n c p _ v w hs0 hB (b43.trans (decide_eq_false h43)) (b45.trans (decide_eq_false h45)) (by omega) hsl hn hc hcs b46 (by omega)

set_option maxHeartbeats 1000000 in
theorem measure_pct (s : ByteArray) (r a N k : Nat) (v : Value) (L : List Tk) (w : World) (hs0 : s.size ≤ 1000000) (ha : a ≤ s.size) (hN : num (s.data.toList.drop a) = N) (h0 : 0 < N) (hL : L.length ≤ 1000000) (h37 : (((pk s (a + N)).toNat : Int) == 37) = true)
    (hB : Lx w r s a v) (ho : w.ownsRow (r + 1) 23 3 v L.length (tkCells L)) :
    Calls Try.prog 38 #[.pointer (some ⟨r, 0, none⟩)] w fun e w' => e = .returned (.tuple #[]) ∧ Lo w' r s (a + N + 1) (L ++ [(⟨8, [], worth ((s.data.toList.drop a).take N)⟩ : Tk)]) ∧ Below r w w' := by
  have hsm : s.size ≤ maxLen := by unfold maxLen; omega
  have hle := num_le (s.data.toList.drop a)
  rw [List.length_drop, len_data, hN] at hle
  have hnu := fun w hB => numeral_any s r a v w hs0 ha (by rw [hN]; exact h0) hB
  have hpk := fun w hB => peek_any s r (a + N) 0 v w hsm (by omega) (by omega) hB
  have hnm := fun w hB => name_any s r (a + N) 0 v w hsm (by omega) (by omega) hB
  have hrn := fun w hB => run_goes s r (a + N) v w hsm (by omega) hB
  obtain ⟨m, hm⟩ : ∃ m, m = a + N := ⟨_, rfl⟩
  have hmb : (m : Int) ≤ 1000000 := by omega
  rw [hN, ← hm] at hnu
  rw [Nat.add_zero, ← hm] at hpk hnm
  rw [← hm] at hrn
  generalize hW : worth ((s.data.toList.drop a).take N) = W at *
  rw [← hm] at h37 ⊢
  generalize pk s m = c at *
  have HX := Lib.hid hB
  have HO := Lib.hid ho
  have HB := Lib.hid (Below.refl r w)
  clear hB ho
  clear hle h0 hm ha hN
  go_enter Try.func38, Try.ntmps38
  go_wp2_with fail
  refine (hnu _ HX.out).mono ?_; rintro e w2 ⟨rfl, hx2, hk2⟩
  have HO := Lib.hid (own_keeps HO.out hk2)
  have HB := Lib.hid (HB.out.trans (keeps_below hk2 HX.out.lt))
  have HX := Lib.hid hx2
  clear hx2 hk2
  go_wp2_with fail
  refine (hpk _ HX.out).mono ?_; rintro e w2 ⟨rfl, hb2⟩
  have HO := Lib.hid (own_then HO.out hb2)
  have HB := Lib.hid (below_low HB.out HX.out.lt hb2)
  have HX := Lib.hid (HX.out.then_ hb2)
  clear hb2
  have c0 := HX.out.cell 0
  have c1 : w2.cell? ⟨r, 1, none⟩ = some (.int .i64 (m : Int)) := HX.out.cell 1
  have fz := HX.out.frozen
  have hrl := HX.out.lt
  go_wp2_with fail
  refine (put_any s r (m + 1) v L (⟨8, [], W⟩ : Tk) _ hL ?hx ?ho).mono ?_
  case hx => exact HX.out.put 1 _
  case ho => exact own_put HO.out 1 _
  rintro e w3 ⟨rfl, hlo, hb3⟩
  have HB := Lib.hid ((HB.out.setCell (Nat.le_refl r) _).trans hb3)
  have HLO := Lib.hid hlo
  clear hlo hb3
  go_wp2_with fail
  go_end0
  exact ⟨rfl, HLO.out, HB.out⟩

set_option maxHeartbeats 1000000 in
theorem measure_num (s : ByteArray) (r a N k : Nat) (v : Value) (L : List Tk) (w : World) (hs0 : s.size ≤ 1000000) (ha : a ≤ s.size) (hN : num (s.data.toList.drop a) = N) (h0 : 0 < N) (hL : L.length ≤ 1000000) (h37 : (((pk s (a + N)).toNat : Int) == 37) = false) (hst : starts (s.data.toList.drop (a + N)) = false)
    (hB : Lx w r s a v) (ho : w.ownsRow (r + 1) 23 3 v L.length (tkCells L)) :
    Calls Try.prog 38 #[.pointer (some ⟨r, 0, none⟩)] w fun e w' => e = .returned (.tuple #[]) ∧ Lo w' r s (a + N) (L ++ [(⟨7, [], worth ((s.data.toList.drop a).take N)⟩ : Tk)]) ∧ Below r w w' := by
  have hsm : s.size ≤ maxLen := by unfold maxLen; omega
  have hle := num_le (s.data.toList.drop a)
  rw [List.length_drop, len_data, hN] at hle
  have hnu := fun w hB => numeral_any s r a v w hs0 ha (by rw [hN]; exact h0) hB
  have hpk := fun w hB => peek_any s r (a + N) 0 v w hsm (by omega) (by omega) hB
  have hnm := fun w hB => name_any s r (a + N) 0 v w hsm (by omega) (by omega) hB
  have hrn := fun w hB => run_goes s r (a + N) v w hsm (by omega) hB
  obtain ⟨m, hm⟩ : ∃ m, m = a + N := ⟨_, rfl⟩
  have hmb : (m : Int) ≤ 1000000 := by omega
  rw [hN, ← hm] at hnu
  rw [Nat.add_zero, ← hm] at hpk hnm
  rw [← hm] at hrn
  generalize hW : worth ((s.data.toList.drop a).take N) = W at *
  rw [← hm] at h37 hst ⊢
  rw [hst] at hnm
  clear hst
  generalize pk s m = c at *
  have HX := Lib.hid hB
  have HO := Lib.hid ho
  have HB := Lib.hid (Below.refl r w)
  clear hB ho
  clear hle h0 hm ha hN
  go_enter Try.func38, Try.ntmps38
  go_wp2_with fail
  refine (hnu _ HX.out).mono ?_; rintro e w2 ⟨rfl, hx2, hk2⟩
  have HO := Lib.hid (own_keeps HO.out hk2)
  have HB := Lib.hid (HB.out.trans (keeps_below hk2 HX.out.lt))
  have HX := Lib.hid hx2
  clear hx2 hk2
  go_wp2_with fail
  refine (hpk _ HX.out).mono ?_; rintro e w2 ⟨rfl, hb2⟩
  have HO := Lib.hid (own_then HO.out hb2)
  have HB := Lib.hid (below_low HB.out HX.out.lt hb2)
  have HX := Lib.hid (HX.out.then_ hb2)
  clear hb2
  go_wp2_with fail
  refine (hnm _ HX.out).mono ?_; rintro e w2 ⟨rfl, hb2⟩
  have HO := Lib.hid (own_then HO.out hb2)
  have HB := Lib.hid (below_low HB.out HX.out.lt hb2)
  have HX := Lib.hid (HX.out.then_ hb2)
  clear hb2
  go_wp2_with fail
  refine (put_any s r m v L (⟨7, [], W⟩ : Tk) _ hL ?hx ?ho).mono ?_
  case hx => exact HX.out
  case ho => exact HO.out
  rintro e w3 ⟨rfl, hlo, hb3⟩
  have HB := Lib.hid (HB.out.trans hb3)
  have HLO := Lib.hid hlo
  clear hlo hb3
  go_wp2_with fail
  go_end0
  exact ⟨rfl, HLO.out, HB.out⟩

set_option maxHeartbeats 1000000 in
theorem measure_dim (s : ByteArray) (r a N k : Nat) (v : Value) (L : List Tk) (w : World) (hs0 : s.size ≤ 1000000) (ha : a ≤ s.size) (hN : num (s.data.toList.drop a) = N) (h0 : 0 < N) (hL : L.length ≤ 1000000) (h37 : (((pk s (a + N)).toNat : Int) == 37) = false) (hst : starts (s.data.toList.drop (a + N)) = true) (hk : runL isG (s.data.toList.drop (a + N)) = k)
    (hB : Lx w r s a v) (ho : w.ownsRow (r + 1) 23 3 v L.length (tkCells L)) :
    Calls Try.prog 38 #[.pointer (some ⟨r, 0, none⟩)] w fun e w' => e = .returned (.tuple #[]) ∧ Lo w' r s (a + N + k) (L ++ [(⟨9, (s.data.toList.drop (a + N)).take k, worth ((s.data.toList.drop a).take N)⟩ : Tk)]) ∧ Below r w w' := by
  have hsm : s.size ≤ maxLen := by unfold maxLen; omega
  have hle := num_le (s.data.toList.drop a)
  rw [List.length_drop, len_data, hN] at hle
  have hnu := fun w hB => numeral_any s r a v w hs0 ha (by rw [hN]; exact h0) hB
  have hpk := fun w hB => peek_any s r (a + N) 0 v w hsm (by omega) (by omega) hB
  have hnm := fun w hB => name_any s r (a + N) 0 v w hsm (by omega) (by omega) hB
  have hrn := fun w hB => run_goes s r (a + N) v w hsm (by omega) hB
  obtain ⟨m, hm⟩ : ∃ m, m = a + N := ⟨_, rfl⟩
  have hmb : (m : Int) ≤ 1000000 := by omega
  rw [hN, ← hm] at hnu
  rw [Nat.add_zero, ← hm] at hpk hnm
  rw [← hm] at hrn
  generalize hW : worth ((s.data.toList.drop a).take N) = W at *
  rw [← hm] at h37 hst hk ⊢
  rw [hst] at hnm
  rw [hk] at hrn
  clear hst hk
  generalize pk s m = c at *
  have HX := Lib.hid hB
  have HO := Lib.hid ho
  have HB := Lib.hid (Below.refl r w)
  clear hB ho
  clear hle h0 hm ha hN
  go_enter Try.func38, Try.ntmps38
  go_wp2_with fail
  refine (hnu _ HX.out).mono ?_; rintro e w2 ⟨rfl, hx2, hk2⟩
  have HO := Lib.hid (own_keeps HO.out hk2)
  have HB := Lib.hid (HB.out.trans (keeps_below hk2 HX.out.lt))
  have HX := Lib.hid hx2
  clear hx2 hk2
  go_wp2_with fail
  refine (hpk _ HX.out).mono ?_; rintro e w2 ⟨rfl, hb2⟩
  have HO := Lib.hid (own_then HO.out hb2)
  have HB := Lib.hid (below_low HB.out HX.out.lt hb2)
  have HX := Lib.hid (HX.out.then_ hb2)
  clear hb2
  go_wp2_with fail
  refine (hnm _ HX.out).mono ?_; rintro e w2 ⟨rfl, hb2⟩
  have HO := Lib.hid (own_then HO.out hb2)
  have HB := Lib.hid (below_low HB.out HX.out.lt hb2)
  have HX := Lib.hid (HX.out.then_ hb2)
  clear hb2
  go_wp2_with fail
  refine (hrn _ HX.out).mono ?_; rintro e w2 ⟨rfl, hx2, hk2⟩
  have HO := Lib.hid (own_keeps HO.out hk2)
  have HB := Lib.hid (HB.out.trans (keeps_below hk2 HX.out.lt))
  have HX := Lib.hid hx2
  clear hx2 hk2
  go_wp2_with fail
  refine (put_any s r (m + k) v L (⟨9, (s.data.toList.drop m).take k, W⟩ : Tk) _ hL ?hx ?ho).mono ?_
  case hx => exact HX.out
  case ho => exact HO.out
  rintro e w3 ⟨rfl, hlo, hb3⟩
  have HB := Lib.hid (HB.out.trans hb3)
  have HLO := Lib.hid hlo
  clear hlo hb3
  go_wp2_with fail
  go_end0
  exact ⟨rfl, HLO.out, HB.out⟩

theorem measure_any (s : ByteArray) (r a : Nat) (v : Value) (L : List Tk) (w : World) (hs0 : s.size ≤ 1000000) (ha : a ≤ s.size) (h0 : 0 < num (s.data.toList.drop a)) (hL : L.length ≤ 1000000) (hB : Lx w r s a v) (ho : w.ownsRow (r + 1) 23 3 v L.length (tkCells L)) :
    Calls Try.prog 38 #[.pointer (some ⟨r, 0, none⟩)] w fun e w' => e = .returned (.tuple #[]) ∧ Lo w' r s (a + (measured (s.data.toList.drop a) (num (s.data.toList.drop a))).2) (L ++ [(measured (s.data.toList.drop a) (num (s.data.toList.drop a))).1]) ∧ Below r w w' := by
  obtain ⟨N, hN⟩ : ∃ N, num (s.data.toList.drop a) = N := ⟨_, rfl⟩
  rw [hN] at h0 ⊢
  have hp := heads_pk 37 (by decide) s (a + N)
  have e1 : (((pk s (a + N)).toNat : Int) == 37) = decide ((pk s (a + N)).toNat = 37) := byte_eq _ 37
  have e2 : (s.data.toList.drop a).drop N = s.data.toList.drop (a + N) := List.drop_drop ..
  cases hh : decide ((pk s (a + N)).toNat = 37) with
  | true =>
    rw [measured_pct (by rw [e2]; exact hp.trans hh)]
    exact measure_pct s r a N 0 v L w hs0 ha hN h0 hL (e1.trans hh) hB ho
  | false =>
    cases hst : starts (s.data.toList.drop (a + N)) with
    | true =>
      rw [measured_dim (by rw [e2]; exact hp.trans hh) (by rw [e2]; exact hst), e2, show a + (N + runL isG (s.data.toList.drop (a + N))) = a + N + runL isG (s.data.toList.drop (a + N)) by omega]
      exact measure_dim s r a N _ v L w hs0 ha hN h0 hL (e1.trans hh) hst rfl hB ho
    | false =>
      rw [measured_num (by rw [e2]; exact hp.trans hh) (by rw [e2]; exact hst)]
      exact measure_num s r a N 0 v L w hs0 ha hN h0 hL (e1.trans hh) hst hB ho

end Go.Proofs.Ytmicgfpiknibhaa
