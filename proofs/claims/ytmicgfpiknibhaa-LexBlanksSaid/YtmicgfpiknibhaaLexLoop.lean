/- The lexer's loop: the pass from its begin, path by path. -/
import Derived.Test.YtmicgfpiknibhaaLexLabels
import Derived.Test.YtmicgfpiknibhaaLexGood
namespace Go.Proofs.Ytmicgfpiknibhaa
open Go.RowKit
set_option linter.unusedSimpArgs false
set_option linter.unusedVariables false
attribute [local go_sem] cell?_ext frozen?_ext lt_size_ext

set_option maxHeartbeats 4000000 in
set_option maxRecDepth 100000 in
theorem next_comment (s : ByteArray) (r a : Nat) (v : Value) (L : List Tk) (w0 w : World) (C : List Tk) (Q : Exit → Act → World → Prop) (f : Nat → Value) (hs0 : s.size ≤ 1000000) (hL : L.length ≤ a) (hC : L ++ cut (s.data.toList.drop a) = C)
    (hB : Lx w r s a v) (ho : w.ownsRow (r + 1) 23 3 v L.length (tkCells L)) (hb0 : Below r w0 w) (ha : a < s.size) (hc : s[a].toNat = 47 ∧ heads 42 (s.data.toList.drop (a + 1)) = true) :
    lexTop.wp Try.prog (LQ s r w0 C 0 a Q) ⟨lxFrame s r f, []⟩ w := by
  have hsm : s.size ≤ maxLen := by unfold maxLen; omega
  have h8 : s[a].toNat < 256 := s[a].toNat_lt
  have hX := drop_at s a ha
  have dA : ((a : Int) == (s.size : Int)) = false := beq_false_of_ne (by omega)
  have hLb : L.length ≤ 1000000 := by omega
  have hsz : (s.size : Int) ≤ 1000000 := by omega
  have hE : oneT (s.data.toList.drop a) = (none, 2 + behind (s.data.toList.drop (a + 2))) := by rw [hX, one_comment hc, List.drop_drop]
  have ha2 : a + 2 ≤ s.size := by
    rcases Nat.lt_or_ge (a + 1) s.size with h | h
    · omega
    · have := hc.2; rw [heads_end 42 s (a + 1) h] at this; cases this
  have e47 : ((s[a].toNat : Int) == 47) = true := by rw [hc.1]; rfl
  have hpk := fun w hB => peek_any s r a 1 v w hsm (by omega) (by omega) hB
  have d42 : (((pk s (a + 1)).toNat : Int) == 42) = true := (byte_eq _ 42).trans (by rw [← heads_pk 42 (by decide)]; exact hc.2)
  have hpl : (pk s (a + 1)).toNat < 256 := (pk s (a + 1)).toNat_lt
  generalize pk s (a + 1) = d at *
  have HX := Lib.hid hB
  have HO := Lib.hid ho
  have HB := Lib.hid hb0
  have HC := Lib.hid hC
  have HE := Lib.hid hE
  clear hB ho hb0 hC hE hX hc
  have c0 : w.cell? ⟨r, 0, none⟩ = some (.string s) := HX.out.cell 0
  have c1 : w.cell? ⟨r, 1, none⟩ = some (.int .i64 (a : Int)) := HX.out.cell 1
  have fz := HX.out.frozen
  have hrl := HX.out.lt
  conv => arg 2; whnf
  unfold lxFrame
  go_wp2_with fail
  refine (hpk _ HX.out).mono ?_; rintro e w2 ⟨rfl, hb2⟩
  have HO := Lib.hid (own_then HO.out hb2)
  have HB := Lib.hid (below_low HB.out HX.out.lt hb2)
  have HX := Lib.hid (HX.out.then_ hb2)
  clear hb2 c0 c1 fz hrl
  have c0 : w2.cell? ⟨r, 0, none⟩ = some (.string s) := HX.out.cell 0
  have c1 : w2.cell? ⟨r, 1, none⟩ = some (.int .i64 (a : Int)) := HX.out.cell 1
  have fz := HX.out.frozen
  have hrl := HX.out.lt
  go_wp2_with fail
  refine wp_goto ?_
  try simp only [Exit.inBlock, Exit.then]
  exact lq_label L (by rfl) (by decide) ⟨ha2, HE.out⟩ hL HC.out ⟨v, HX.out, HO.out⟩ HB.out

set_option maxHeartbeats 4000000 in
set_option maxRecDepth 100000 in
theorem next_blank (s : ByteArray) (r a : Nat) (v : Value) (L : List Tk) (w0 w : World) (C : List Tk) (Q : Exit → Act → World → Prop) (f : Nat → Value) (hs0 : s.size ≤ 1000000) (hL : L.length ≤ a) (hC : L ++ cut (s.data.toList.drop a) = C)
    (hB : Lx w r s a v) (ho : w.ownsRow (r + 1) 23 3 v L.length (tkCells L)) (hb0 : Below r w0 w) (ha : a < s.size) (hc : ¬ (s[a].toNat = 47 ∧ heads 42 (s.data.toList.drop (a + 1)) = true)) (hb : isS s[a] = true) :
    lexTop.wp Try.prog (LQ s r w0 C 0 a Q) ⟨lxFrame s r f, []⟩ w := by
  have hsm : s.size ≤ maxLen := by unfold maxLen; omega
  have h8 : s[a].toNat < 256 := s[a].toNat_lt
  have hX := drop_at s a ha
  have dA : ((a : Int) == (s.size : Int)) = false := beq_false_of_ne (by omega)
  have hLb : L.length ≤ 1000000 := by omega
  have hsz : (s.size : Int) ≤ 1000000 := by omega
  have hE : oneT (s.data.toList.drop a) = (some ⟨20, [], 0⟩, runL isS (s.data.toList.drop a)) := by rw [hX, one_blank hc hb]
  have e47 : ((s[a].toNat : Int) == 47) = false := beq_false_of_ne (by have := (isS_iff _).1 hb; omega)
  have hbl := blank_any s[a]
  rw [hb] at hbl
  have HX := Lib.hid hB
  have HO := Lib.hid ho
  have HB := Lib.hid hb0
  have HC := Lib.hid hC
  have HE := Lib.hid hE
  clear hB ho hb0 hC hE hX hc hb
  have c0 : w.cell? ⟨r, 0, none⟩ = some (.string s) := HX.out.cell 0
  have c1 : w.cell? ⟨r, 1, none⟩ = some (.int .i64 (a : Int)) := HX.out.cell 1
  have fz := HX.out.frozen
  have hrl := HX.out.lt
  conv => arg 2; whnf
  unfold lxFrame
  go_wp2_with fail
  refine (hbl _).mono ?_; rintro e w' ⟨rfl, rfl⟩
  go_wp2_with fail
  refine wp_goto ?_
  try simp only [Exit.inBlock, Exit.then]
  exact lq_label L (by rfl) (by decide) ⟨ha, HE.out⟩ hL HC.out ⟨v, HX.out, HO.out⟩ HB.out

set_option maxHeartbeats 4000000 in
set_option maxRecDepth 100000 in
theorem next_quote34 (s : ByteArray) (r a : Nat) (v : Value) (L : List Tk) (w0 w : World) (C : List Tk) (Q : Exit → Act → World → Prop) (f : Nat → Value) (hs0 : s.size ≤ 1000000) (hL : L.length ≤ a) (hC : L ++ cut (s.data.toList.drop a) = C)
    (hB : Lx w r s a v) (ho : w.ownsRow (r + 1) 23 3 v L.length (tkCells L)) (hb0 : Below r w0 w) (ha : a < s.size) (hc : ¬ (s[a].toNat = 47 ∧ heads 42 (s.data.toList.drop (a + 1)) = true)) (hb : isS s[a] = false) (hq : s[a].toNat = 34) :
    lexTop.wp Try.prog (LQ s r w0 C 0 a Q) ⟨lxFrame s r f, []⟩ w := by
  have hsm : s.size ≤ maxLen := by unfold maxLen; omega
  have h8 : s[a].toNat < 256 := s[a].toNat_lt
  have hX := drop_at s a ha
  have dA : ((a : Int) == (s.size : Int)) = false := beq_false_of_ne (by omega)
  have hLb : L.length ≤ 1000000 := by omega
  have hsz : (s.size : Int) ≤ 1000000 := by omega
  have hE : oneT (s.data.toList.drop a) = (some (quoted s[a].toNat (s.data.toList.drop (a + 1))).1, (quoted s[a].toNat (s.data.toList.drop (a + 1))).2) := by rw [hX, one_quote hc hb (by omega)]
  have e47 : ((s[a].toNat : Int) == 47) = false := beq_false_of_ne (by omega)
  have e34 : ((s[a].toNat : Int) == 34) = true := by rw [hq]; rfl
  have hbl := blank_any s[a]
  rw [hb] at hbl
  have HX := Lib.hid hB
  have HO := Lib.hid ho
  have HB := Lib.hid hb0
  have HC := Lib.hid hC
  have HE := Lib.hid hE
  clear hB ho hb0 hC hE hX hc hb hq
  have c0 : w.cell? ⟨r, 0, none⟩ = some (.string s) := HX.out.cell 0
  have c1 : w.cell? ⟨r, 1, none⟩ = some (.int .i64 (a : Int)) := HX.out.cell 1
  have fz := HX.out.frozen
  have hrl := HX.out.lt
  conv => arg 2; whnf
  unfold lxFrame
  go_wp2_with fail
  refine (hbl _).mono ?_; rintro e w' ⟨rfl, rfl⟩
  go_wp2_with fail
  refine wp_goto ?_
  try simp only [Exit.inBlock, Exit.then]
  exact lq_label L (by rfl) (by decide) ⟨ha, s[a].toNat, rfl, HE.out⟩ hL HC.out ⟨v, HX.out, HO.out⟩ HB.out

set_option maxHeartbeats 4000000 in
set_option maxRecDepth 100000 in
theorem next_quote39 (s : ByteArray) (r a : Nat) (v : Value) (L : List Tk) (w0 w : World) (C : List Tk) (Q : Exit → Act → World → Prop) (f : Nat → Value) (hs0 : s.size ≤ 1000000) (hL : L.length ≤ a) (hC : L ++ cut (s.data.toList.drop a) = C)
    (hB : Lx w r s a v) (ho : w.ownsRow (r + 1) 23 3 v L.length (tkCells L)) (hb0 : Below r w0 w) (ha : a < s.size) (hc : ¬ (s[a].toNat = 47 ∧ heads 42 (s.data.toList.drop (a + 1)) = true)) (hb : isS s[a] = false) (hq : s[a].toNat = 39) :
    lexTop.wp Try.prog (LQ s r w0 C 0 a Q) ⟨lxFrame s r f, []⟩ w := by
  have hsm : s.size ≤ maxLen := by unfold maxLen; omega
  have h8 : s[a].toNat < 256 := s[a].toNat_lt
  have hX := drop_at s a ha
  have dA : ((a : Int) == (s.size : Int)) = false := beq_false_of_ne (by omega)
  have hLb : L.length ≤ 1000000 := by omega
  have hsz : (s.size : Int) ≤ 1000000 := by omega
  have hE : oneT (s.data.toList.drop a) = (some (quoted s[a].toNat (s.data.toList.drop (a + 1))).1, (quoted s[a].toNat (s.data.toList.drop (a + 1))).2) := by rw [hX, one_quote hc hb (by omega)]
  have e47 : ((s[a].toNat : Int) == 47) = false := beq_false_of_ne (by omega)
  have e34 : ((s[a].toNat : Int) == 34) = false := beq_false_of_ne (by omega)
  have e39 : ((s[a].toNat : Int) == 39) = true := by rw [hq]; rfl
  have hbl := blank_any s[a]
  rw [hb] at hbl
  have HX := Lib.hid hB
  have HO := Lib.hid ho
  have HB := Lib.hid hb0
  have HC := Lib.hid hC
  have HE := Lib.hid hE
  clear hB ho hb0 hC hE hX hc hb hq
  have c0 : w.cell? ⟨r, 0, none⟩ = some (.string s) := HX.out.cell 0
  have c1 : w.cell? ⟨r, 1, none⟩ = some (.int .i64 (a : Int)) := HX.out.cell 1
  have fz := HX.out.frozen
  have hrl := HX.out.lt
  conv => arg 2; whnf
  unfold lxFrame
  go_wp2_with fail
  refine (hbl _).mono ?_; rintro e w' ⟨rfl, rfl⟩
  go_wp2_with fail
  refine wp_goto ?_
  try simp only [Exit.inBlock, Exit.then]
  exact lq_label L (by rfl) (by decide) ⟨ha, s[a].toNat, rfl, HE.out⟩ hL HC.out ⟨v, HX.out, HO.out⟩ HB.out

set_option maxHeartbeats 4000000 in
set_option maxRecDepth 100000 in
theorem next_num (s : ByteArray) (r a : Nat) (v : Value) (L : List Tk) (w0 w : World) (C : List Tk) (Q : Exit → Act → World → Prop) (f : Nat → Value) (hs0 : s.size ≤ 1000000) (hL : L.length ≤ a) (hC : L ++ cut (s.data.toList.drop a) = C)
    (hB : Lx w r s a v) (ho : w.ownsRow (r + 1) 23 3 v L.length (tkCells L)) (hb0 : Below r w0 w) (ha : a < s.size) (hc : ¬ (s[a].toNat = 47 ∧ heads 42 (s.data.toList.drop (a + 1)) = true)) (hb : isS s[a] = false) (hq : ¬ (s[a].toNat = 34 ∨ s[a].toNat = 39)) (hn : 0 < num (s.data.toList.drop a)) :
    lexTop.wp Try.prog (LQ s r w0 C 0 a Q) ⟨lxFrame s r f, []⟩ w := by
  have hsm : s.size ≤ maxLen := by unfold maxLen; omega
  have h8 : s[a].toNat < 256 := s[a].toNat_lt
  have hX := drop_at s a ha
  have dA : ((a : Int) == (s.size : Int)) = false := beq_false_of_ne (by omega)
  have hLb : L.length ≤ 1000000 := by omega
  have hsz : (s.size : Int) ≤ 1000000 := by omega
  have hE : oneT (s.data.toList.drop a) = (some (measured (s.data.toList.drop a) (num (s.data.toList.drop a))).1, (measured (s.data.toList.drop a) (num (s.data.toList.drop a))).2) := by rw [hX, one_num hc hb hq (by rw [← hX]; exact hn)]
  have h47 : ¬ s[a].toNat = 47 := by
    intro h
    have h2 := (num_pos _).1 hn
    rw [hX] at h2
    have e : sgn (s[a] :: s.data.toList.drop (a + 1)) = 0 := if_neg (by omega)
    rw [e] at h2
    rcases h2 with h2 | h2
    · have := (isD_iff s[a]).1 h2; omega
    · have : s[a].toNat = 46 := of_decide_eq_true h2.1
      omega
  have e47 : ((s[a].toNat : Int) == 47) = false := beq_false_of_ne (by omega)
  have e34 : ((s[a].toNat : Int) == 34) = false := beq_false_of_ne (by omega)
  have e39 : ((s[a].toNat : Int) == 39) = false := beq_false_of_ne (by omega)
  have hbl := blank_any s[a]
  rw [hb] at hbl
  have hnu := fun w hB => number_any s r a v w hsm (by omega) hB
  rw [decide_eq_true hn] at hnu
  have HX := Lib.hid hB
  have HO := Lib.hid ho
  have HB := Lib.hid hb0
  have HC := Lib.hid hC
  have HE := Lib.hid hE
  have HN := Lib.hid hn
  clear hB ho hb0 hC hE hX hc hb hq hn h47
  have c0 : w.cell? ⟨r, 0, none⟩ = some (.string s) := HX.out.cell 0
  have c1 : w.cell? ⟨r, 1, none⟩ = some (.int .i64 (a : Int)) := HX.out.cell 1
  have fz := HX.out.frozen
  have hrl := HX.out.lt
  conv => arg 2; whnf
  unfold lxFrame
  go_wp2_with fail
  refine (hbl _).mono ?_; rintro e w' ⟨rfl, rfl⟩
  go_wp2_with fail
  refine (hnu _ HX.out).mono ?_; rintro e w2 ⟨rfl, hb2⟩
  have HO := Lib.hid (own_then HO.out hb2)
  have HB := Lib.hid (below_low HB.out HX.out.lt hb2)
  have HX := Lib.hid (HX.out.then_ hb2)
  clear hb2 c0 c1 fz hrl
  have c0 : w2.cell? ⟨r, 0, none⟩ = some (.string s) := HX.out.cell 0
  have c1 : w2.cell? ⟨r, 1, none⟩ = some (.int .i64 (a : Int)) := HX.out.cell 1
  have fz := HX.out.frozen
  have hrl := HX.out.lt
  go_wp2_with fail
  refine wp_goto ?_
  try simp only [Exit.inBlock, Exit.then]
  exact lq_label L (by rfl) (by decide) ⟨ha, HN.out, HE.out⟩ hL HC.out ⟨v, HX.out, HO.out⟩ HB.out

set_option maxHeartbeats 4000000 in
set_option maxRecDepth 100000 in
theorem next_hash (s : ByteArray) (r a : Nat) (v : Value) (L : List Tk) (w0 w : World) (C : List Tk) (Q : Exit → Act → World → Prop) (f : Nat → Value) (hs0 : s.size ≤ 1000000) (hL : L.length ≤ a) (hC : L ++ cut (s.data.toList.drop a) = C)
    (hB : Lx w r s a v) (ho : w.ownsRow (r + 1) 23 3 v L.length (tkCells L)) (hb0 : Below r w0 w) (ha : a < s.size) (hc : ¬ (s[a].toNat = 47 ∧ heads 42 (s.data.toList.drop (a + 1)) = true)) (hb : isS s[a] = false) (hq : ¬ (s[a].toNat = 34 ∨ s[a].toNat = 39)) (hn : ¬ 0 < num (s.data.toList.drop a)) (hh : s[a].toNat = 35 ∧ 0 < runL isG (s.data.toList.drop (a + 1))) :
    lexTop.wp Try.prog (LQ s r w0 C 0 a Q) ⟨lxFrame s r f, []⟩ w := by
  have hsm : s.size ≤ maxLen := by unfold maxLen; omega
  have h8 : s[a].toNat < 256 := s[a].toNat_lt
  have hX := drop_at s a ha
  have dA : ((a : Int) == (s.size : Int)) = false := beq_false_of_ne (by omega)
  have hLb : L.length ≤ 1000000 := by omega
  have hsz : (s.size : Int) ≤ 1000000 := by omega
  have hE : oneT (s.data.toList.drop a) = (some ⟨4, (s.data.toList.drop (a + 1)).take (runL isG (s.data.toList.drop (a + 1))), 0⟩, 1 + runL isG (s.data.toList.drop (a + 1))) := by rw [hX, one_hash hc hb hq (by rw [← hX]; exact hn) hh]
  obtain ⟨m, hm⟩ : ∃ m, m = a + 1 := ⟨_, rfl⟩
  have hmI : (a : Int) + 1 = (m : Int) := by omega
  have h35 := hh.1
  have hlt : m < s.size := by
    rcases Nat.lt_or_ge m s.size with h | h
    · exact h
    · have := hh.2; rw [runL_end isG s (a + 1) (by omega)] at this; omega
  have hgm : isG s[m] = true := by
    have h2 := hh.2
    rw [← hm, runL_at isG s m hlt] at h2
    cases hg : isG s[m] with
    | true => rfl
    | false => rw [hg] at h2; simp at h2
  have h8m : s[m].toNat < 256 := s[m].toNat_lt
  have hgo := goes_any s[m]
  rw [hgm] at hgo
  have dm : decide ((m : Int) < (s.size : Int)) = true := decide_eq_true (by omega)
  have e47 : ((s[a].toNat : Int) == 47) = false := beq_false_of_ne (by omega)
  have e34 : ((s[a].toNat : Int) == 34) = false := beq_false_of_ne (by omega)
  have e39 : ((s[a].toNat : Int) == 39) = false := beq_false_of_ne (by omega)
  have e35 : ((s[a].toNat : Int) == 35) = true := by rw [h35]; rfl
  have hbl := blank_any s[a]
  rw [hb] at hbl
  have hnu := fun w hB => number_any s r a v w hsm (by omega) hB
  rw [decide_eq_false hn] at hnu
  have HX := Lib.hid hB
  have HO := Lib.hid ho
  have HB := Lib.hid hb0
  have HC := Lib.hid hC
  have HE := Lib.hid hE
  clear hB ho hb0 hC hE hX hc hb hq hn hh h35 hm hgm
  have c0 : w.cell? ⟨r, 0, none⟩ = some (.string s) := HX.out.cell 0
  have c1 : w.cell? ⟨r, 1, none⟩ = some (.int .i64 (a : Int)) := HX.out.cell 1
  have fz := HX.out.frozen
  have hrl := HX.out.lt
  conv => arg 2; whnf
  unfold lxFrame
  go_wp2_with fail
  refine (hbl _).mono ?_; rintro e w' ⟨rfl, rfl⟩
  go_wp2_with fail
  refine (hnu _ HX.out).mono ?_; rintro e w2 ⟨rfl, hb2⟩
  have HO := Lib.hid (own_then HO.out hb2)
  have HB := Lib.hid (below_low HB.out HX.out.lt hb2)
  have HX := Lib.hid (HX.out.then_ hb2)
  clear hb2 c0 c1 fz hrl
  have c0 : w2.cell? ⟨r, 0, none⟩ = some (.string s) := HX.out.cell 0
  have c1 : w2.cell? ⟨r, 1, none⟩ = some (.int .i64 (a : Int)) := HX.out.cell 1
  have fz := HX.out.frozen
  have hrl := HX.out.lt
  go_wp2_with fail
  refine (hgo _).mono ?_; rintro e w' ⟨rfl, rfl⟩
  go_wp2_with fail
  refine wp_goto ?_
  try simp only [Exit.inBlock, Exit.then]
  exact lq_label L (by rfl) (by decide) ⟨ha, HE.out⟩ hL HC.out ⟨v, HX.out, HO.out⟩ HB.out

set_option maxHeartbeats 4000000 in
set_option maxRecDepth 100000 in
theorem next_at (s : ByteArray) (r a : Nat) (v : Value) (L : List Tk) (w0 w : World) (C : List Tk) (Q : Exit → Act → World → Prop) (f : Nat → Value) (hs0 : s.size ≤ 1000000) (hL : L.length ≤ a) (hC : L ++ cut (s.data.toList.drop a) = C)
    (hB : Lx w r s a v) (ho : w.ownsRow (r + 1) 23 3 v L.length (tkCells L)) (hb0 : Below r w0 w) (ha : a < s.size) (hc : ¬ (s[a].toNat = 47 ∧ heads 42 (s.data.toList.drop (a + 1)) = true)) (hb : isS s[a] = false) (hq : ¬ (s[a].toNat = 34 ∨ s[a].toNat = 39)) (hn : ¬ 0 < num (s.data.toList.drop a)) (hh : ¬ (s[a].toNat = 35 ∧ 0 < runL isG (s.data.toList.drop (a + 1)))) (ht : s[a].toNat = 64 ∧ starts (s.data.toList.drop (a + 1)) = true) :
    lexTop.wp Try.prog (LQ s r w0 C 0 a Q) ⟨lxFrame s r f, []⟩ w := by
  have hsm : s.size ≤ maxLen := by unfold maxLen; omega
  have h8 : s[a].toNat < 256 := s[a].toNat_lt
  have hX := drop_at s a ha
  have dA : ((a : Int) == (s.size : Int)) = false := beq_false_of_ne (by omega)
  have hLb : L.length ≤ 1000000 := by omega
  have hsz : (s.size : Int) ≤ 1000000 := by omega
  have hE : oneT (s.data.toList.drop a) = (some ⟨3, (s.data.toList.drop (a + 1)).take (runL isG (s.data.toList.drop (a + 1))), 0⟩, 1 + runL isG (s.data.toList.drop (a + 1))) := by rw [hX, one_at hc hb hq (by rw [← hX]; exact hn) hh ht]
  have h64 := ht.1
  have e47 : ((s[a].toNat : Int) == 47) = false := beq_false_of_ne (by omega)
  have e34 : ((s[a].toNat : Int) == 34) = false := beq_false_of_ne (by omega)
  have e39 : ((s[a].toNat : Int) == 39) = false := beq_false_of_ne (by omega)
  have e35 : ((s[a].toNat : Int) == 35) = false := beq_false_of_ne (by omega)
  have e64 : ((s[a].toNat : Int) == 64) = true := by rw [h64]; rfl
  have hbl := blank_any s[a]
  rw [hb] at hbl
  have hnu := fun w hB => number_any s r a v w hsm (by omega) hB
  rw [decide_eq_false hn] at hnu
  have hn1 := fun w hB => name_any s r a 1 v w hsm (by omega) (by omega) hB
  rw [ht.2] at hn1
  have HX := Lib.hid hB
  have HO := Lib.hid ho
  have HB := Lib.hid hb0
  have HC := Lib.hid hC
  have HE := Lib.hid hE
  clear hB ho hb0 hC hE hX hc hb hq hn hh ht h64
  have c0 : w.cell? ⟨r, 0, none⟩ = some (.string s) := HX.out.cell 0
  have c1 : w.cell? ⟨r, 1, none⟩ = some (.int .i64 (a : Int)) := HX.out.cell 1
  have fz := HX.out.frozen
  have hrl := HX.out.lt
  conv => arg 2; whnf
  unfold lxFrame
  go_wp2_with fail
  refine (hbl _).mono ?_; rintro e w' ⟨rfl, rfl⟩
  go_wp2_with fail
  refine (hnu _ HX.out).mono ?_; rintro e w2 ⟨rfl, hb2⟩
  have HO := Lib.hid (own_then HO.out hb2)
  have HB := Lib.hid (below_low HB.out HX.out.lt hb2)
  have HX := Lib.hid (HX.out.then_ hb2)
  clear hb2 c0 c1 fz hrl
  have c0 : w2.cell? ⟨r, 0, none⟩ = some (.string s) := HX.out.cell 0
  have c1 : w2.cell? ⟨r, 1, none⟩ = some (.int .i64 (a : Int)) := HX.out.cell 1
  have fz := HX.out.frozen
  have hrl := HX.out.lt
  go_wp2_with fail
  refine (hn1 _ HX.out).mono ?_; rintro e w2 ⟨rfl, hb2⟩
  have HO := Lib.hid (own_then HO.out hb2)
  have HB := Lib.hid (below_low HB.out HX.out.lt hb2)
  have HX := Lib.hid (HX.out.then_ hb2)
  clear hb2 c0 c1 fz hrl
  have c0 : w2.cell? ⟨r, 0, none⟩ = some (.string s) := HX.out.cell 0
  have c1 : w2.cell? ⟨r, 1, none⟩ = some (.int .i64 (a : Int)) := HX.out.cell 1
  have fz := HX.out.frozen
  have hrl := HX.out.lt
  go_wp2_with fail
  refine wp_goto ?_
  try simp only [Exit.inBlock, Exit.then]
  exact lq_label L (by rfl) (by decide) ⟨ha, HE.out⟩ hL HC.out ⟨v, HX.out, HO.out⟩ HB.out

set_option maxHeartbeats 4000000 in
set_option maxRecDepth 100000 in
theorem next_name (s : ByteArray) (r a : Nat) (v : Value) (L : List Tk) (w0 w : World) (C : List Tk) (Q : Exit → Act → World → Prop) (f : Nat → Value) (hs0 : s.size ≤ 1000000) (hL : L.length ≤ a) (hC : L ++ cut (s.data.toList.drop a) = C)
    (hB : Lx w r s a v) (ho : w.ownsRow (r + 1) 23 3 v L.length (tkCells L)) (hb0 : Below r w0 w) (ha : a < s.size) (hc : ¬ (s[a].toNat = 47 ∧ heads 42 (s.data.toList.drop (a + 1)) = true)) (hb : isS s[a] = false) (hq : ¬ (s[a].toNat = 34 ∨ s[a].toNat = 39)) (hn : ¬ 0 < num (s.data.toList.drop a)) (hh : ¬ (s[a].toNat = 35 ∧ 0 < runL isG (s.data.toList.drop (a + 1)))) (ht : ¬ (s[a].toNat = 64 ∧ starts (s.data.toList.drop (a + 1)) = true)) (hm : starts (s.data.toList.drop a) = true) :
    lexTop.wp Try.prog (LQ s r w0 C 0 a Q) ⟨lxFrame s r f, []⟩ w := by
  have hsm : s.size ≤ maxLen := by unfold maxLen; omega
  have h8 : s[a].toNat < 256 := s[a].toNat_lt
  have hX := drop_at s a ha
  have dA : ((a : Int) == (s.size : Int)) = false := beq_false_of_ne (by omega)
  have hLb : L.length ≤ 1000000 := by omega
  have hsz : (s.size : Int) ≤ 1000000 := by omega
  have hE : oneT (s.data.toList.drop a) = (some (named (s.data.toList.drop a)).1, (named (s.data.toList.drop a)).2) := by rw [hX, one_name hc hb hq (by rw [← hX]; exact hn) hh ht (by rw [← hX]; exact hm)]
  have hne : ¬ s[a].toNat = 47 ∧ ¬ s[a].toNat = 35 ∧ ¬ s[a].toNat = 64 := by
    have h2 := hm
    rw [hX, starts] at h2
    by_cases h45 : s[a].toNat = 45
    · omega
    · rw [if_neg h45] at h2
      have := (isB_iff _).1 h2
      omega
  have e47 : ((s[a].toNat : Int) == 47) = false := beq_false_of_ne (by omega)
  have e34 : ((s[a].toNat : Int) == 34) = false := beq_false_of_ne (by omega)
  have e39 : ((s[a].toNat : Int) == 39) = false := beq_false_of_ne (by omega)
  have e35 : ((s[a].toNat : Int) == 35) = false := beq_false_of_ne (by omega)
  have e64 : ((s[a].toNat : Int) == 64) = false := beq_false_of_ne (by omega)
  have hbl := blank_any s[a]
  rw [hb] at hbl
  have hnu := fun w hB => number_any s r a v w hsm (by omega) hB
  rw [decide_eq_false hn] at hnu
  have hn0 := fun w hB => name_any s r a 0 v w hsm (by omega) (by omega) hB
  rw [Nat.add_zero, hm] at hn0
  have HX := Lib.hid hB
  have HO := Lib.hid ho
  have HB := Lib.hid hb0
  have HC := Lib.hid hC
  have HE := Lib.hid hE
  clear hB ho hb0 hC hE hX hc hb hq hn hh ht hm hne
  have c0 : w.cell? ⟨r, 0, none⟩ = some (.string s) := HX.out.cell 0
  have c1 : w.cell? ⟨r, 1, none⟩ = some (.int .i64 (a : Int)) := HX.out.cell 1
  have fz := HX.out.frozen
  have hrl := HX.out.lt
  conv => arg 2; whnf
  unfold lxFrame
  go_wp2_with fail
  refine (hbl _).mono ?_; rintro e w' ⟨rfl, rfl⟩
  go_wp2_with fail
  refine (hnu _ HX.out).mono ?_; rintro e w2 ⟨rfl, hb2⟩
  have HO := Lib.hid (own_then HO.out hb2)
  have HB := Lib.hid (below_low HB.out HX.out.lt hb2)
  have HX := Lib.hid (HX.out.then_ hb2)
  clear hb2 c0 c1 fz hrl
  have c0 : w2.cell? ⟨r, 0, none⟩ = some (.string s) := HX.out.cell 0
  have c1 : w2.cell? ⟨r, 1, none⟩ = some (.int .i64 (a : Int)) := HX.out.cell 1
  have fz := HX.out.frozen
  have hrl := HX.out.lt
  go_wp2_with fail
  refine (hn0 _ HX.out).mono ?_; rintro e w2 ⟨rfl, hb2⟩
  have HO := Lib.hid (own_then HO.out hb2)
  have HB := Lib.hid (below_low HB.out HX.out.lt hb2)
  have HX := Lib.hid (HX.out.then_ hb2)
  clear hb2 c0 c1 fz hrl
  have c0 : w2.cell? ⟨r, 0, none⟩ = some (.string s) := HX.out.cell 0
  have c1 : w2.cell? ⟨r, 1, none⟩ = some (.int .i64 (a : Int)) := HX.out.cell 1
  have fz := HX.out.frozen
  have hrl := HX.out.lt
  go_wp2_with fail
  refine wp_goto ?_
  try simp only [Exit.inBlock, Exit.then]
  exact lq_label L (by rfl) (by decide) ⟨ha, HE.out⟩ hL HC.out ⟨v, HX.out, HO.out⟩ HB.out

set_option maxHeartbeats 4000000 in
set_option maxRecDepth 100000 in
theorem next_sign (s : ByteArray) (r a : Nat) (v : Value) (L : List Tk) (w0 w : World) (C : List Tk) (Q : Exit → Act → World → Prop) (f : Nat → Value) (hs0 : s.size ≤ 1000000) (hL : L.length ≤ a) (hC : L ++ cut (s.data.toList.drop a) = C)
    (hB : Lx w r s a v) (ho : w.ownsRow (r + 1) 23 3 v L.length (tkCells L)) (hb0 : Below r w0 w) (ha : a < s.size) (hc : ¬ (s[a].toNat = 47 ∧ heads 42 (s.data.toList.drop (a + 1)) = true)) (hb : isS s[a] = false) (hq : ¬ (s[a].toNat = 34 ∨ s[a].toNat = 39)) (hn : ¬ 0 < num (s.data.toList.drop a)) (hh : ¬ (s[a].toNat = 35 ∧ 0 < runL isG (s.data.toList.drop (a + 1)))) (ht : ¬ (s[a].toNat = 64 ∧ starts (s.data.toList.drop (a + 1)) = true)) (hm : starts (s.data.toList.drop a) = false) (hk : 0 < signK s[a].toNat) :
    lexTop.wp Try.prog (LQ s r w0 C 0 a Q) ⟨lxFrame s r f, []⟩ w := by
  have hsm : s.size ≤ maxLen := by unfold maxLen; omega
  have h8 : s[a].toNat < 256 := s[a].toNat_lt
  have hX := drop_at s a ha
  have dA : ((a : Int) == (s.size : Int)) = false := beq_false_of_ne (by omega)
  have hLb : L.length ≤ 1000000 := by omega
  have hsz : (s.size : Int) ≤ 1000000 := by omega
  have hE : oneT (s.data.toList.drop a) = (some ⟨signK s[a].toNat, [], 0⟩, 1) := by rw [hX, one_sign hc hb hq (by rw [← hX]; exact hn) hh ht (by rw [← hX]; exact hm) hk]
  have hks := (signK_iff _).1 hk
  have e47 : ((s[a].toNat : Int) == 47) = false := beq_false_of_ne (by omega)
  have e34 : ((s[a].toNat : Int) == 34) = false := beq_false_of_ne (by omega)
  have e39 : ((s[a].toNat : Int) == 39) = false := beq_false_of_ne (by omega)
  have e35 : ((s[a].toNat : Int) == 35) = false := beq_false_of_ne (by omega)
  have e64 : ((s[a].toNat : Int) == 64) = false := beq_false_of_ne (by omega)
  obtain ⟨m, hmm⟩ : ∃ m, m = a + 1 := ⟨_, rfl⟩
  have hmI : (a : Int) + 1 = (m : Int) := by omega
  have hmJ : (m : Int) - 1 = (a : Int) := by omega
  have hams : (a : Int) ≤ (m : Int) := by omega
  have hmsz : (m : Int) ≤ (s.size : Int) := by omega
  obtain ⟨hlt, hle, hCC⟩ := cut_next ha hE hC
  rw [← hmm] at hlt hle hCC
  have hLm : L.length + 1 ≤ m := by omega
  have hbl := blank_any s[a]
  rw [hb] at hbl
  have hnu := fun w hB => number_any s r a v w hsm (by omega) hB
  rw [decide_eq_false hn] at hnu
  have hn0 := fun w hB => name_any s r a 0 v w hsm (by omega) (by omega) hB
  rw [Nat.add_zero, hm] at hn0
  have hsg := sign_any s[a]
  rw [if_neg (by omega)] at hsg
  have hk19 : signK s[a].toNat < 19 := by unfold signK; (repeat' split) <;> omega
  obtain ⟨K, hK⟩ : ∃ K, K = signK s[a].toNat := ⟨_, rfl⟩
  rw [← hK] at hsg hk19 hE hCC
  have d19 : ((K : Int) != 19) = true := by unfold bne; rw [beq_false_of_ne (by omega)]; rfl
  have HX := Lib.hid hB
  have HO := Lib.hid ho
  have HB := Lib.hid hb0
  have HC := Lib.hid hCC
  have HE := Lib.hid hE
  clear hB ho hb0 hC hE hX hCC hc hb hq hn hh ht hm hk hks hmm hK hk19
  have c0 : w.cell? ⟨r, 0, none⟩ = some (.string s) := HX.out.cell 0
  have c1 : w.cell? ⟨r, 1, none⟩ = some (.int .i64 (a : Int)) := HX.out.cell 1
  have fz := HX.out.frozen
  have hrl := HX.out.lt
  conv => arg 2; whnf
  unfold lxFrame
  go_wp2_with fail
  refine (hbl _).mono ?_; rintro e w' ⟨rfl, rfl⟩
  go_wp2_with fail
  refine (hnu _ HX.out).mono ?_; rintro e w2 ⟨rfl, hb2⟩
  have HO := Lib.hid (own_then HO.out hb2)
  have HB := Lib.hid (below_low HB.out HX.out.lt hb2)
  have HX := Lib.hid (HX.out.then_ hb2)
  clear hb2 c0 c1 fz hrl
  have c0 : w2.cell? ⟨r, 0, none⟩ = some (.string s) := HX.out.cell 0
  have c1 : w2.cell? ⟨r, 1, none⟩ = some (.int .i64 (a : Int)) := HX.out.cell 1
  have fz := HX.out.frozen
  have hrl := HX.out.lt
  go_wp2_with fail
  refine (hn0 _ HX.out).mono ?_; rintro e w2 ⟨rfl, hb2⟩
  have HO := Lib.hid (own_then HO.out hb2)
  have HB := Lib.hid (below_low HB.out HX.out.lt hb2)
  have HX := Lib.hid (HX.out.then_ hb2)
  clear hb2 c0 c1 fz hrl
  have c0 : w2.cell? ⟨r, 0, none⟩ = some (.string s) := HX.out.cell 0
  have c1 : w2.cell? ⟨r, 1, none⟩ = some (.int .i64 (a : Int)) := HX.out.cell 1
  have fz := HX.out.frozen
  have hrl := HX.out.lt
  go_wp2_with fail
  have hx3 : Lx (w2.setCell ⟨r, 1, none⟩ (.int .i64 (m : Int))) r s m v := HX.out.put 1 _
  have ho3 := own_put HO.out 1 (.int .i64 (m : Int))
  have hb3 := HB.out.setCell (p := ⟨r, 1, none⟩) (Nat.le_refl r) (.int .i64 (m : Int))
  refine (hsg _).mono ?_; rintro e w4 ⟨rfl, h4⟩
  rw [h4] at hx3 ho3 hb3
  have HX := Lib.hid hx3
  have HO := Lib.hid ho3
  have HB := Lib.hid hb3
  clear hx3 ho3 hb3 h4 c0 c1 fz hrl
  have c0 : w4.cell? ⟨r, 0, none⟩ = some (.string s) := HX.out.cell 0
  have c1 : w4.cell? ⟨r, 1, none⟩ = some (.int .i64 (m : Int)) := HX.out.cell 1
  have fz := HX.out.frozen
  have hrl := HX.out.lt
  go_wp2_with fail
  refine (put_any s r m v L (⟨(K : Int), [], 0⟩ : Tk) _ hLb HX.out HO.out).mono ?_
  rintro e w5 ⟨rfl, hlo, hb5⟩
  have HB := Lib.hid (HB.out.trans hb5)
  have HLO := Lib.hid hlo
  clear hlo hb5
  go_wp2_with fail
  refine wp_goto ?_
  try simp only [Exit.inBlock, Exit.then]
  exact lq_again m _ (by rfl) hlt hle (by simp; omega) HC.out HLO.out HB.out

set_option maxHeartbeats 4000000 in
set_option maxRecDepth 100000 in
theorem next_delim_plain (s : ByteArray) (r a : Nat) (v : Value) (L : List Tk) (w0 w : World) (C : List Tk) (Q : Exit → Act → World → Prop) (f : Nat → Value) (hs0 : s.size ≤ 1000000) (hL : L.length ≤ a) (hC : L ++ cut (s.data.toList.drop a) = C)
    (hB : Lx w r s a v) (ho : w.ownsRow (r + 1) 23 3 v L.length (tkCells L)) (hb0 : Below r w0 w) (ha : a < s.size) (hc : ¬ (s[a].toNat = 47 ∧ heads 42 (s.data.toList.drop (a + 1)) = true)) (hb : isS s[a] = false) (hq : ¬ (s[a].toNat = 34 ∨ s[a].toNat = 39)) (hn : ¬ 0 < num (s.data.toList.drop a)) (hh : ¬ (s[a].toNat = 35 ∧ 0 < runL isG (s.data.toList.drop (a + 1)))) (ht : ¬ (s[a].toNat = 64 ∧ starts (s.data.toList.drop (a + 1)) = true)) (hm : starts (s.data.toList.drop a) = false) (hk : ¬ 0 < signK s[a].toNat) (h47 : ¬ s[a].toNat = 47) (h35 : ¬ s[a].toNat = 35) (h64 : ¬ s[a].toNat = 64) :
    lexTop.wp Try.prog (LQ s r w0 C 0 a Q) ⟨lxFrame s r f, []⟩ w := by
  have hsm : s.size ≤ maxLen := by unfold maxLen; omega
  have h8 : s[a].toNat < 256 := s[a].toNat_lt
  have hX := drop_at s a ha
  have dA : ((a : Int) == (s.size : Int)) = false := beq_false_of_ne (by omega)
  have hLb : L.length ≤ 1000000 := by omega
  have hsz : (s.size : Int) ≤ 1000000 := by omega
  have hE : oneT (s.data.toList.drop a) = (some ⟨19, [s[a]], 0⟩, 1) := by rw [hX, one_delim hc hb hq (by rw [← hX]; exact hn) hh ht (by rw [← hX]; exact hm) hk]
  have e47 : ((s[a].toNat : Int) == 47) = false := beq_false_of_ne (by omega)
  have e35 : ((s[a].toNat : Int) == 35) = false := beq_false_of_ne (by omega)
  have e64 : ((s[a].toNat : Int) == 64) = false := beq_false_of_ne (by omega)
  have e34 : ((s[a].toNat : Int) == 34) = false := beq_false_of_ne (by omega)
  have e39 : ((s[a].toNat : Int) == 39) = false := beq_false_of_ne (by omega)
  obtain ⟨m, hmm⟩ : ∃ m, m = a + 1 := ⟨_, rfl⟩
  have hmI : (a : Int) + 1 = (m : Int) := by omega
  have hmJ : (m : Int) - 1 = (a : Int) := by omega
  have hams : (a : Int) ≤ (m : Int) := by omega
  have hmsz : (m : Int) ≤ (s.size : Int) := by omega
  obtain ⟨hlt, hle, hCC⟩ := cut_next ha hE hC
  rw [← hmm] at hlt hle hCC
  have hLm : L.length + 1 ≤ m := by omega
  have hbl := blank_any s[a]
  rw [hb] at hbl
  have hnu := fun w hB => number_any s r a v w hsm (by omega) hB
  rw [decide_eq_false hn] at hnu
  have hn0 := fun w hB => name_any s r a 0 v w hsm (by omega) (by omega) hB
  rw [Nat.add_zero, hm] at hn0
  have hsg := sign_any s[a]
  rw [if_pos (by omega)] at hsg
  have hx1 : s.extract a m = strOf [s[a]] := by rw [ext_str s a m 1 (by omega), hX]; rfl
  have HX1 := Lib.hid hx1
  have HX := Lib.hid hB
  have HO := Lib.hid ho
  have HB := Lib.hid hb0
  have HC := Lib.hid hCC
  have HE := Lib.hid hE
  clear hB ho hb0 hC hE hX hx1 hCC hc hb hq hn hh ht hm hk hmm h47 h35 h64
  have c0 : w.cell? ⟨r, 0, none⟩ = some (.string s) := HX.out.cell 0
  have c1 : w.cell? ⟨r, 1, none⟩ = some (.int .i64 (a : Int)) := HX.out.cell 1
  have fz := HX.out.frozen
  have hrl := HX.out.lt
  conv => arg 2; whnf
  unfold lxFrame
  go_wp2_with fail
  refine (hbl _).mono ?_; rintro e w' ⟨rfl, rfl⟩
  go_wp2_with fail
  refine (hnu _ HX.out).mono ?_; rintro e w2 ⟨rfl, hb2⟩
  have HO := Lib.hid (own_then HO.out hb2)
  have HB := Lib.hid (below_low HB.out HX.out.lt hb2)
  have HX := Lib.hid (HX.out.then_ hb2)
  clear hb2 c0 c1 fz hrl
  have c0 : w2.cell? ⟨r, 0, none⟩ = some (.string s) := HX.out.cell 0
  have c1 : w2.cell? ⟨r, 1, none⟩ = some (.int .i64 (a : Int)) := HX.out.cell 1
  have fz := HX.out.frozen
  have hrl := HX.out.lt
  go_wp2_with fail
  refine (hn0 _ HX.out).mono ?_; rintro e w2 ⟨rfl, hb2⟩
  have HO := Lib.hid (own_then HO.out hb2)
  have HB := Lib.hid (below_low HB.out HX.out.lt hb2)
  have HX := Lib.hid (HX.out.then_ hb2)
  clear hb2 c0 c1 fz hrl
  have c0 : w2.cell? ⟨r, 0, none⟩ = some (.string s) := HX.out.cell 0
  have c1 : w2.cell? ⟨r, 1, none⟩ = some (.int .i64 (a : Int)) := HX.out.cell 1
  have fz := HX.out.frozen
  have hrl := HX.out.lt
  go_wp2_with fail
  have hx3 : Lx (w2.setCell ⟨r, 1, none⟩ (.int .i64 (m : Int))) r s m v := HX.out.put 1 _
  have ho3 := own_put HO.out 1 (.int .i64 (m : Int))
  have hb3 := HB.out.setCell (p := ⟨r, 1, none⟩) (Nat.le_refl r) (.int .i64 (m : Int))
  refine (hsg _).mono ?_; rintro e w4 ⟨rfl, h4⟩
  rw [h4] at hx3 ho3 hb3
  have HX := Lib.hid hx3
  have HO := Lib.hid ho3
  have HB := Lib.hid hb3
  clear hx3 ho3 hb3 h4 c0 c1 fz hrl
  have c0 : w4.cell? ⟨r, 0, none⟩ = some (.string s) := HX.out.cell 0
  have c1 : w4.cell? ⟨r, 1, none⟩ = some (.int .i64 (m : Int)) := HX.out.cell 1
  have fz := HX.out.frozen
  have hrl := HX.out.lt
  have hx1 := HX1.out
  go_wp2_with fail
  refine wp_region_ext_tail 13 (by kernel_rfl) (by kernel_rfl) ?_
  simp only [List.take_succ_cons, List.take_zero, List.drop_succ_cons, List.drop_zero]
  repeat (go_big_quiet_step (fail))
  refine wpQuiet_nil ?_
  rintro _ ⟨u, rfl⟩
  go_wp2_with fail
  refine (put_any s r m v L (⟨19, [s[a]], 0⟩ : Tk) _ hLb (HX.out.then_ (below_ext w4 u)) (own_then HO.out (below_ext w4 u))).mono ?_
  rintro e w5 ⟨rfl, hlo, hb5⟩
  have HB := Lib.hid (HB.out.trans ((below_ext w4 u).mono (Nat.le_of_lt HX.out.lt) |>.trans hb5))
  have HLO := Lib.hid hlo
  clear hlo hb5
  go_wp2_with fail
  refine wp_goto ?_
  try simp only [Exit.inBlock, Exit.then]
  exact lq_again m _ (by rfl) hlt hle (by simp; omega) HC.out HLO.out HB.out

set_option maxHeartbeats 4000000 in
set_option maxRecDepth 100000 in
theorem next_delim_slash (s : ByteArray) (r a : Nat) (v : Value) (L : List Tk) (w0 w : World) (C : List Tk) (Q : Exit → Act → World → Prop) (f : Nat → Value) (hs0 : s.size ≤ 1000000) (hL : L.length ≤ a) (hC : L ++ cut (s.data.toList.drop a) = C)
    (hB : Lx w r s a v) (ho : w.ownsRow (r + 1) 23 3 v L.length (tkCells L)) (hb0 : Below r w0 w) (ha : a < s.size) (hc : ¬ (s[a].toNat = 47 ∧ heads 42 (s.data.toList.drop (a + 1)) = true)) (hb : isS s[a] = false) (hq : ¬ (s[a].toNat = 34 ∨ s[a].toNat = 39)) (hn : ¬ 0 < num (s.data.toList.drop a)) (hh : ¬ (s[a].toNat = 35 ∧ 0 < runL isG (s.data.toList.drop (a + 1)))) (ht : ¬ (s[a].toNat = 64 ∧ starts (s.data.toList.drop (a + 1)) = true)) (hm : starts (s.data.toList.drop a) = false) (hk : ¬ 0 < signK s[a].toNat) (h47 : s[a].toNat = 47) :
    lexTop.wp Try.prog (LQ s r w0 C 0 a Q) ⟨lxFrame s r f, []⟩ w := by
  have hsm : s.size ≤ maxLen := by unfold maxLen; omega
  have h8 : s[a].toNat < 256 := s[a].toNat_lt
  have hX := drop_at s a ha
  have dA : ((a : Int) == (s.size : Int)) = false := beq_false_of_ne (by omega)
  have hLb : L.length ≤ 1000000 := by omega
  have hsz : (s.size : Int) ≤ 1000000 := by omega
  have hE : oneT (s.data.toList.drop a) = (some ⟨19, [s[a]], 0⟩, 1) := by rw [hX, one_delim hc hb hq (by rw [← hX]; exact hn) hh ht (by rw [← hX]; exact hm) hk]
  have e47 : ((s[a].toNat : Int) == 47) = true := by rw [h47]; rfl
  have e35 : ((s[a].toNat : Int) == 35) = false := beq_false_of_ne (by omega)
  have e64 : ((s[a].toNat : Int) == 64) = false := beq_false_of_ne (by omega)
  have e34 : ((s[a].toNat : Int) == 34) = false := beq_false_of_ne (by omega)
  have e39 : ((s[a].toNat : Int) == 39) = false := beq_false_of_ne (by omega)
  obtain ⟨m, hmm⟩ : ∃ m, m = a + 1 := ⟨_, rfl⟩
  have hmI : (a : Int) + 1 = (m : Int) := by omega
  have hmJ : (m : Int) - 1 = (a : Int) := by omega
  have hams : (a : Int) ≤ (m : Int) := by omega
  have hmsz : (m : Int) ≤ (s.size : Int) := by omega
  obtain ⟨hlt, hle, hCC⟩ := cut_next ha hE hC
  rw [← hmm] at hlt hle hCC
  have hLm : L.length + 1 ≤ m := by omega
  have hpk := fun w hB => peek_any s r a 1 v w hsm (by omega) (by omega) hB
  have d42 : (((pk s (a + 1)).toNat : Int) == 42) = false := (byte_eq _ 42).trans (by rw [← heads_pk 42 (by decide)]; exact (by cases hv : heads 42 (s.data.toList.drop (a + 1)) with | false => rfl | true => exact absurd ⟨h47, hv⟩ hc))
  have hpl : (pk s (a + 1)).toNat < 256 := (pk s (a + 1)).toNat_lt
  generalize pk s (a + 1) = d at *
  have hbl := blank_any s[a]
  rw [hb] at hbl
  have hnu := fun w hB => number_any s r a v w hsm (by omega) hB
  rw [decide_eq_false hn] at hnu
  have hn0 := fun w hB => name_any s r a 0 v w hsm (by omega) (by omega) hB
  rw [Nat.add_zero, hm] at hn0
  have hsg := sign_any s[a]
  rw [if_pos (by omega)] at hsg
  have hx1 : s.extract a m = strOf [s[a]] := by rw [ext_str s a m 1 (by omega), hX]; rfl
  have HX1 := Lib.hid hx1
  have HX := Lib.hid hB
  have HO := Lib.hid ho
  have HB := Lib.hid hb0
  have HC := Lib.hid hCC
  have HE := Lib.hid hE
  clear hB ho hb0 hC hE hX hx1 hCC hc hb hq hn hh ht hm hk hmm h47
  have c0 : w.cell? ⟨r, 0, none⟩ = some (.string s) := HX.out.cell 0
  have c1 : w.cell? ⟨r, 1, none⟩ = some (.int .i64 (a : Int)) := HX.out.cell 1
  have fz := HX.out.frozen
  have hrl := HX.out.lt
  conv => arg 2; whnf
  unfold lxFrame
  go_wp2_with fail
  refine (hpk _ HX.out).mono ?_; rintro e w2 ⟨rfl, hb2⟩
  have HO := Lib.hid (own_then HO.out hb2)
  have HB := Lib.hid (below_low HB.out HX.out.lt hb2)
  have HX := Lib.hid (HX.out.then_ hb2)
  clear hb2 c0 c1 fz hrl
  have c0 : w2.cell? ⟨r, 0, none⟩ = some (.string s) := HX.out.cell 0
  have c1 : w2.cell? ⟨r, 1, none⟩ = some (.int .i64 (a : Int)) := HX.out.cell 1
  have fz := HX.out.frozen
  have hrl := HX.out.lt
  go_wp2_with fail
  refine (hbl _).mono ?_; rintro e w' ⟨rfl, rfl⟩
  go_wp2_with fail
  refine (hnu _ HX.out).mono ?_; rintro e w2 ⟨rfl, hb2⟩
  have HO := Lib.hid (own_then HO.out hb2)
  have HB := Lib.hid (below_low HB.out HX.out.lt hb2)
  have HX := Lib.hid (HX.out.then_ hb2)
  clear hb2 c0 c1 fz hrl
  have c0 : w2.cell? ⟨r, 0, none⟩ = some (.string s) := HX.out.cell 0
  have c1 : w2.cell? ⟨r, 1, none⟩ = some (.int .i64 (a : Int)) := HX.out.cell 1
  have fz := HX.out.frozen
  have hrl := HX.out.lt
  go_wp2_with fail
  refine (hn0 _ HX.out).mono ?_; rintro e w2 ⟨rfl, hb2⟩
  have HO := Lib.hid (own_then HO.out hb2)
  have HB := Lib.hid (below_low HB.out HX.out.lt hb2)
  have HX := Lib.hid (HX.out.then_ hb2)
  clear hb2 c0 c1 fz hrl
  have c0 : w2.cell? ⟨r, 0, none⟩ = some (.string s) := HX.out.cell 0
  have c1 : w2.cell? ⟨r, 1, none⟩ = some (.int .i64 (a : Int)) := HX.out.cell 1
  have fz := HX.out.frozen
  have hrl := HX.out.lt
  go_wp2_with fail
  have hx3 : Lx (w2.setCell ⟨r, 1, none⟩ (.int .i64 (m : Int))) r s m v := HX.out.put 1 _
  have ho3 := own_put HO.out 1 (.int .i64 (m : Int))
  have hb3 := HB.out.setCell (p := ⟨r, 1, none⟩) (Nat.le_refl r) (.int .i64 (m : Int))
  refine (hsg _).mono ?_; rintro e w4 ⟨rfl, h4⟩
  rw [h4] at hx3 ho3 hb3
  have HX := Lib.hid hx3
  have HO := Lib.hid ho3
  have HB := Lib.hid hb3
  clear hx3 ho3 hb3 h4 c0 c1 fz hrl
  have c0 : w4.cell? ⟨r, 0, none⟩ = some (.string s) := HX.out.cell 0
  have c1 : w4.cell? ⟨r, 1, none⟩ = some (.int .i64 (m : Int)) := HX.out.cell 1
  have fz := HX.out.frozen
  have hrl := HX.out.lt
  have hx1 := HX1.out
  go_wp2_with fail
  refine wp_region_ext_tail 13 (by kernel_rfl) (by kernel_rfl) ?_
  simp only [List.take_succ_cons, List.take_zero, List.drop_succ_cons, List.drop_zero]
  repeat (go_big_quiet_step (fail))
  refine wpQuiet_nil ?_
  rintro _ ⟨u, rfl⟩
  go_wp2_with fail
  refine (put_any s r m v L (⟨19, [s[a]], 0⟩ : Tk) _ hLb (HX.out.then_ (below_ext w4 u)) (own_then HO.out (below_ext w4 u))).mono ?_
  rintro e w5 ⟨rfl, hlo, hb5⟩
  have HB := Lib.hid (HB.out.trans ((below_ext w4 u).mono (Nat.le_of_lt HX.out.lt) |>.trans hb5))
  have HLO := Lib.hid hlo
  clear hlo hb5
  go_wp2_with fail
  refine wp_goto ?_
  try simp only [Exit.inBlock, Exit.then]
  exact lq_again m _ (by rfl) hlt hle (by simp; omega) HC.out HLO.out HB.out

set_option maxHeartbeats 4000000 in
set_option maxRecDepth 100000 in
theorem next_delim_hashg (s : ByteArray) (r a : Nat) (v : Value) (L : List Tk) (w0 w : World) (C : List Tk) (Q : Exit → Act → World → Prop) (f : Nat → Value) (hs0 : s.size ≤ 1000000) (hL : L.length ≤ a) (hC : L ++ cut (s.data.toList.drop a) = C)
    (hB : Lx w r s a v) (ho : w.ownsRow (r + 1) 23 3 v L.length (tkCells L)) (hb0 : Below r w0 w) (ha : a < s.size) (hc : ¬ (s[a].toNat = 47 ∧ heads 42 (s.data.toList.drop (a + 1)) = true)) (hb : isS s[a] = false) (hq : ¬ (s[a].toNat = 34 ∨ s[a].toNat = 39)) (hn : ¬ 0 < num (s.data.toList.drop a)) (hh : ¬ (s[a].toNat = 35 ∧ 0 < runL isG (s.data.toList.drop (a + 1)))) (ht : ¬ (s[a].toNat = 64 ∧ starts (s.data.toList.drop (a + 1)) = true)) (hm : starts (s.data.toList.drop a) = false) (hk : ¬ 0 < signK s[a].toNat) (h35 : s[a].toNat = 35) (hlt1 : a + 1 < s.size) :
    lexTop.wp Try.prog (LQ s r w0 C 0 a Q) ⟨lxFrame s r f, []⟩ w := by
  have hsm : s.size ≤ maxLen := by unfold maxLen; omega
  have h8 : s[a].toNat < 256 := s[a].toNat_lt
  have hX := drop_at s a ha
  have dA : ((a : Int) == (s.size : Int)) = false := beq_false_of_ne (by omega)
  have hLb : L.length ≤ 1000000 := by omega
  have hsz : (s.size : Int) ≤ 1000000 := by omega
  have hE : oneT (s.data.toList.drop a) = (some ⟨19, [s[a]], 0⟩, 1) := by rw [hX, one_delim hc hb hq (by rw [← hX]; exact hn) hh ht (by rw [← hX]; exact hm) hk]
  have e47 : ((s[a].toNat : Int) == 47) = false := beq_false_of_ne (by omega)
  have e35 : ((s[a].toNat : Int) == 35) = true := by rw [h35]; rfl
  have e64 : ((s[a].toNat : Int) == 64) = false := beq_false_of_ne (by omega)
  have e34 : ((s[a].toNat : Int) == 34) = false := beq_false_of_ne (by omega)
  have e39 : ((s[a].toNat : Int) == 39) = false := beq_false_of_ne (by omega)
  obtain ⟨m, hmm⟩ : ∃ m, m = a + 1 := ⟨_, rfl⟩
  have hmI : (a : Int) + 1 = (m : Int) := by omega
  have hmJ : (m : Int) - 1 = (a : Int) := by omega
  have hams : (a : Int) ≤ (m : Int) := by omega
  have hmsz : (m : Int) ≤ (s.size : Int) := by omega
  obtain ⟨hlt, hle, hCC⟩ := cut_next ha hE hC
  rw [← hmm] at hlt hle hCC
  have hLm : L.length + 1 ≤ m := by omega
  have hlt2 : m < s.size := by omega
  have hgm : isG s[m] = false := by
    cases hg : isG s[m] with
    | false => rfl
    | true =>
      exfalso
      apply hh
      refine ⟨h35, ?_⟩
      have e := runL_at isG s m hlt2
      rw [if_pos hg, hmm] at e
      omega
  have h8m : s[m].toNat < 256 := s[m].toNat_lt
  have hgo := goes_any s[m]
  rw [hgm] at hgo
  have dm : decide ((m : Int) < (s.size : Int)) = true := decide_eq_true (by omega)
  have hbl := blank_any s[a]
  rw [hb] at hbl
  have hnu := fun w hB => number_any s r a v w hsm (by omega) hB
  rw [decide_eq_false hn] at hnu
  have hn0 := fun w hB => name_any s r a 0 v w hsm (by omega) (by omega) hB
  rw [Nat.add_zero, hm] at hn0
  have hsg := sign_any s[a]
  rw [if_pos (by omega)] at hsg
  have hx1 : s.extract a m = strOf [s[a]] := by rw [ext_str s a m 1 (by omega), hX]; rfl
  have HX1 := Lib.hid hx1
  have HX := Lib.hid hB
  have HO := Lib.hid ho
  have HB := Lib.hid hb0
  have HC := Lib.hid hCC
  have HE := Lib.hid hE
  clear hB ho hb0 hC hE hX hx1 hCC hc hb hq hn hh ht hm hk hmm h35 hlt1 hgm
  have c0 : w.cell? ⟨r, 0, none⟩ = some (.string s) := HX.out.cell 0
  have c1 : w.cell? ⟨r, 1, none⟩ = some (.int .i64 (a : Int)) := HX.out.cell 1
  have fz := HX.out.frozen
  have hrl := HX.out.lt
  conv => arg 2; whnf
  unfold lxFrame
  go_wp2_with fail
  refine (hbl _).mono ?_; rintro e w' ⟨rfl, rfl⟩
  go_wp2_with fail
  refine (hnu _ HX.out).mono ?_; rintro e w2 ⟨rfl, hb2⟩
  have HO := Lib.hid (own_then HO.out hb2)
  have HB := Lib.hid (below_low HB.out HX.out.lt hb2)
  have HX := Lib.hid (HX.out.then_ hb2)
  clear hb2 c0 c1 fz hrl
  have c0 : w2.cell? ⟨r, 0, none⟩ = some (.string s) := HX.out.cell 0
  have c1 : w2.cell? ⟨r, 1, none⟩ = some (.int .i64 (a : Int)) := HX.out.cell 1
  have fz := HX.out.frozen
  have hrl := HX.out.lt
  go_wp2_with fail
  refine (hgo _).mono ?_; rintro e w' ⟨rfl, rfl⟩
  go_wp2_with fail
  refine (hn0 _ HX.out).mono ?_; rintro e w2 ⟨rfl, hb2⟩
  have HO := Lib.hid (own_then HO.out hb2)
  have HB := Lib.hid (below_low HB.out HX.out.lt hb2)
  have HX := Lib.hid (HX.out.then_ hb2)
  clear hb2 c0 c1 fz hrl
  have c0 : w2.cell? ⟨r, 0, none⟩ = some (.string s) := HX.out.cell 0
  have c1 : w2.cell? ⟨r, 1, none⟩ = some (.int .i64 (a : Int)) := HX.out.cell 1
  have fz := HX.out.frozen
  have hrl := HX.out.lt
  go_wp2_with fail
  have hx3 : Lx (w2.setCell ⟨r, 1, none⟩ (.int .i64 (m : Int))) r s m v := HX.out.put 1 _
  have ho3 := own_put HO.out 1 (.int .i64 (m : Int))
  have hb3 := HB.out.setCell (p := ⟨r, 1, none⟩) (Nat.le_refl r) (.int .i64 (m : Int))
  refine (hsg _).mono ?_; rintro e w4 ⟨rfl, h4⟩
  rw [h4] at hx3 ho3 hb3
  have HX := Lib.hid hx3
  have HO := Lib.hid ho3
  have HB := Lib.hid hb3
  clear hx3 ho3 hb3 h4 c0 c1 fz hrl
  have c0 : w4.cell? ⟨r, 0, none⟩ = some (.string s) := HX.out.cell 0
  have c1 : w4.cell? ⟨r, 1, none⟩ = some (.int .i64 (m : Int)) := HX.out.cell 1
  have fz := HX.out.frozen
  have hrl := HX.out.lt
  have hx1 := HX1.out
  go_wp2_with fail
  refine wp_region_ext_tail 13 (by kernel_rfl) (by kernel_rfl) ?_
  simp only [List.take_succ_cons, List.take_zero, List.drop_succ_cons, List.drop_zero]
  repeat (go_big_quiet_step (fail))
  refine wpQuiet_nil ?_
  rintro _ ⟨u, rfl⟩
  go_wp2_with fail
  refine (put_any s r m v L (⟨19, [s[a]], 0⟩ : Tk) _ hLb (HX.out.then_ (below_ext w4 u)) (own_then HO.out (below_ext w4 u))).mono ?_
  rintro e w5 ⟨rfl, hlo, hb5⟩
  have HB := Lib.hid (HB.out.trans ((below_ext w4 u).mono (Nat.le_of_lt HX.out.lt) |>.trans hb5))
  have HLO := Lib.hid hlo
  clear hlo hb5
  go_wp2_with fail
  refine wp_goto ?_
  try simp only [Exit.inBlock, Exit.then]
  exact lq_again m _ (by rfl) hlt hle (by simp; omega) HC.out HLO.out HB.out

set_option maxHeartbeats 4000000 in
set_option maxRecDepth 100000 in
theorem next_delim_hashe (s : ByteArray) (r a : Nat) (v : Value) (L : List Tk) (w0 w : World) (C : List Tk) (Q : Exit → Act → World → Prop) (f : Nat → Value) (hs0 : s.size ≤ 1000000) (hL : L.length ≤ a) (hC : L ++ cut (s.data.toList.drop a) = C)
    (hB : Lx w r s a v) (ho : w.ownsRow (r + 1) 23 3 v L.length (tkCells L)) (hb0 : Below r w0 w) (ha : a < s.size) (hc : ¬ (s[a].toNat = 47 ∧ heads 42 (s.data.toList.drop (a + 1)) = true)) (hb : isS s[a] = false) (hq : ¬ (s[a].toNat = 34 ∨ s[a].toNat = 39)) (hn : ¬ 0 < num (s.data.toList.drop a)) (hh : ¬ (s[a].toNat = 35 ∧ 0 < runL isG (s.data.toList.drop (a + 1)))) (ht : ¬ (s[a].toNat = 64 ∧ starts (s.data.toList.drop (a + 1)) = true)) (hm : starts (s.data.toList.drop a) = false) (hk : ¬ 0 < signK s[a].toNat) (h35 : s[a].toNat = 35) (hlt1 : ¬ a + 1 < s.size) :
    lexTop.wp Try.prog (LQ s r w0 C 0 a Q) ⟨lxFrame s r f, []⟩ w := by
  have hsm : s.size ≤ maxLen := by unfold maxLen; omega
  have h8 : s[a].toNat < 256 := s[a].toNat_lt
  have hX := drop_at s a ha
  have dA : ((a : Int) == (s.size : Int)) = false := beq_false_of_ne (by omega)
  have hLb : L.length ≤ 1000000 := by omega
  have hsz : (s.size : Int) ≤ 1000000 := by omega
  have hE : oneT (s.data.toList.drop a) = (some ⟨19, [s[a]], 0⟩, 1) := by rw [hX, one_delim hc hb hq (by rw [← hX]; exact hn) hh ht (by rw [← hX]; exact hm) hk]
  have e47 : ((s[a].toNat : Int) == 47) = false := beq_false_of_ne (by omega)
  have e35 : ((s[a].toNat : Int) == 35) = true := by rw [h35]; rfl
  have e64 : ((s[a].toNat : Int) == 64) = false := beq_false_of_ne (by omega)
  have e34 : ((s[a].toNat : Int) == 34) = false := beq_false_of_ne (by omega)
  have e39 : ((s[a].toNat : Int) == 39) = false := beq_false_of_ne (by omega)
  obtain ⟨m, hmm⟩ : ∃ m, m = a + 1 := ⟨_, rfl⟩
  have hmI : (a : Int) + 1 = (m : Int) := by omega
  have hmJ : (m : Int) - 1 = (a : Int) := by omega
  have hams : (a : Int) ≤ (m : Int) := by omega
  have hmsz : (m : Int) ≤ (s.size : Int) := by omega
  obtain ⟨hlt, hle, hCC⟩ := cut_next ha hE hC
  rw [← hmm] at hlt hle hCC
  have hLm : L.length + 1 ≤ m := by omega
  obtain rfl : m = s.size := by omega
  have hbl := blank_any s[a]
  rw [hb] at hbl
  have hnu := fun w hB => number_any s r a v w hsm (by omega) hB
  rw [decide_eq_false hn] at hnu
  have hn0 := fun w hB => name_any s r a 0 v w hsm (by omega) (by omega) hB
  rw [Nat.add_zero, hm] at hn0
  have hsg := sign_any s[a]
  rw [if_pos (by omega)] at hsg
  have hx1 : s.extract a s.size = strOf [s[a]] := by rw [ext_str s a s.size 1 (by omega), hX]; rfl
  have HX1 := Lib.hid hx1
  have HX := Lib.hid hB
  have HO := Lib.hid ho
  have HB := Lib.hid hb0
  have HC := Lib.hid hCC
  have HE := Lib.hid hE
  clear hB ho hb0 hC hE hX hx1 hCC hc hb hq hn hh ht hm hk hmm h35 hlt1 hmsz
  have c0 : w.cell? ⟨r, 0, none⟩ = some (.string s) := HX.out.cell 0
  have c1 : w.cell? ⟨r, 1, none⟩ = some (.int .i64 (a : Int)) := HX.out.cell 1
  have fz := HX.out.frozen
  have hrl := HX.out.lt
  conv => arg 2; whnf
  unfold lxFrame
  go_wp2_with fail
  refine (hbl _).mono ?_; rintro e w' ⟨rfl, rfl⟩
  go_wp2_with fail
  refine (hnu _ HX.out).mono ?_; rintro e w2 ⟨rfl, hb2⟩
  have HO := Lib.hid (own_then HO.out hb2)
  have HB := Lib.hid (below_low HB.out HX.out.lt hb2)
  have HX := Lib.hid (HX.out.then_ hb2)
  clear hb2 c0 c1 fz hrl
  have c0 : w2.cell? ⟨r, 0, none⟩ = some (.string s) := HX.out.cell 0
  have c1 : w2.cell? ⟨r, 1, none⟩ = some (.int .i64 (a : Int)) := HX.out.cell 1
  have fz := HX.out.frozen
  have hrl := HX.out.lt
  go_wp2_with fail
  refine (hn0 _ HX.out).mono ?_; rintro e w2 ⟨rfl, hb2⟩
  have HO := Lib.hid (own_then HO.out hb2)
  have HB := Lib.hid (below_low HB.out HX.out.lt hb2)
  have HX := Lib.hid (HX.out.then_ hb2)
  clear hb2 c0 c1 fz hrl
  have c0 : w2.cell? ⟨r, 0, none⟩ = some (.string s) := HX.out.cell 0
  have c1 : w2.cell? ⟨r, 1, none⟩ = some (.int .i64 (a : Int)) := HX.out.cell 1
  have fz := HX.out.frozen
  have hrl := HX.out.lt
  go_wp2_with fail
  have hx3 : Lx (w2.setCell ⟨r, 1, none⟩ (.int .i64 (s.size : Int))) r s s.size v := HX.out.put 1 _
  have ho3 := own_put HO.out 1 (.int .i64 (s.size : Int))
  have hb3 := HB.out.setCell (p := ⟨r, 1, none⟩) (Nat.le_refl r) (.int .i64 (s.size : Int))
  refine (hsg _).mono ?_; rintro e w4 ⟨rfl, h4⟩
  rw [h4] at hx3 ho3 hb3
  have HX := Lib.hid hx3
  have HO := Lib.hid ho3
  have HB := Lib.hid hb3
  clear hx3 ho3 hb3 h4 c0 c1 fz hrl
  have c0 : w4.cell? ⟨r, 0, none⟩ = some (.string s) := HX.out.cell 0
  have c1 : w4.cell? ⟨r, 1, none⟩ = some (.int .i64 (s.size : Int)) := HX.out.cell 1
  have fz := HX.out.frozen
  have hrl := HX.out.lt
  have hx1 := HX1.out
  go_wp2_with fail
  refine wp_region_ext_tail 13 (by kernel_rfl) (by kernel_rfl) ?_
  simp only [List.take_succ_cons, List.take_zero, List.drop_succ_cons, List.drop_zero]
  repeat (go_big_quiet_step (fail))
  refine wpQuiet_nil ?_
  rintro _ ⟨u, rfl⟩
  go_wp2_with fail
  refine (put_any s r s.size v L (⟨19, [s[a]], 0⟩ : Tk) _ hLb (HX.out.then_ (below_ext w4 u)) (own_then HO.out (below_ext w4 u))).mono ?_
  rintro e w5 ⟨rfl, hlo, hb5⟩
  have HB := Lib.hid (HB.out.trans ((below_ext w4 u).mono (Nat.le_of_lt HX.out.lt) |>.trans hb5))
  have HLO := Lib.hid hlo
  clear hlo hb5
  go_wp2_with fail
  refine wp_goto ?_
  try simp only [Exit.inBlock, Exit.then]
  exact lq_again s.size _ (by rfl) hlt hle (by simp; omega) HC.out HLO.out HB.out

set_option maxHeartbeats 4000000 in
set_option maxRecDepth 100000 in
theorem next_delim_at (s : ByteArray) (r a : Nat) (v : Value) (L : List Tk) (w0 w : World) (C : List Tk) (Q : Exit → Act → World → Prop) (f : Nat → Value) (hs0 : s.size ≤ 1000000) (hL : L.length ≤ a) (hC : L ++ cut (s.data.toList.drop a) = C)
    (hB : Lx w r s a v) (ho : w.ownsRow (r + 1) 23 3 v L.length (tkCells L)) (hb0 : Below r w0 w) (ha : a < s.size) (hc : ¬ (s[a].toNat = 47 ∧ heads 42 (s.data.toList.drop (a + 1)) = true)) (hb : isS s[a] = false) (hq : ¬ (s[a].toNat = 34 ∨ s[a].toNat = 39)) (hn : ¬ 0 < num (s.data.toList.drop a)) (hh : ¬ (s[a].toNat = 35 ∧ 0 < runL isG (s.data.toList.drop (a + 1)))) (ht : ¬ (s[a].toNat = 64 ∧ starts (s.data.toList.drop (a + 1)) = true)) (hm : starts (s.data.toList.drop a) = false) (hk : ¬ 0 < signK s[a].toNat) (h64 : s[a].toNat = 64) :
    lexTop.wp Try.prog (LQ s r w0 C 0 a Q) ⟨lxFrame s r f, []⟩ w := by
  have hsm : s.size ≤ maxLen := by unfold maxLen; omega
  have h8 : s[a].toNat < 256 := s[a].toNat_lt
  have hX := drop_at s a ha
  have dA : ((a : Int) == (s.size : Int)) = false := beq_false_of_ne (by omega)
  have hLb : L.length ≤ 1000000 := by omega
  have hsz : (s.size : Int) ≤ 1000000 := by omega
  have hE : oneT (s.data.toList.drop a) = (some ⟨19, [s[a]], 0⟩, 1) := by rw [hX, one_delim hc hb hq (by rw [← hX]; exact hn) hh ht (by rw [← hX]; exact hm) hk]
  have e47 : ((s[a].toNat : Int) == 47) = false := beq_false_of_ne (by omega)
  have e35 : ((s[a].toNat : Int) == 35) = false := beq_false_of_ne (by omega)
  have e64 : ((s[a].toNat : Int) == 64) = true := by rw [h64]; rfl
  have e34 : ((s[a].toNat : Int) == 34) = false := beq_false_of_ne (by omega)
  have e39 : ((s[a].toNat : Int) == 39) = false := beq_false_of_ne (by omega)
  obtain ⟨m, hmm⟩ : ∃ m, m = a + 1 := ⟨_, rfl⟩
  have hmI : (a : Int) + 1 = (m : Int) := by omega
  have hmJ : (m : Int) - 1 = (a : Int) := by omega
  have hams : (a : Int) ≤ (m : Int) := by omega
  have hmsz : (m : Int) ≤ (s.size : Int) := by omega
  obtain ⟨hlt, hle, hCC⟩ := cut_next ha hE hC
  rw [← hmm] at hlt hle hCC
  have hLm : L.length + 1 ≤ m := by omega
  have hst : starts (s.data.toList.drop (a + 1)) = false := by
    cases hv : starts (s.data.toList.drop (a + 1)) with
    | false => rfl
    | true => exact absurd ⟨h64, hv⟩ ht
  have hn1 := fun w hB => name_any s r a 1 v w hsm (by omega) (by omega) hB
  rw [hst] at hn1
  have hbl := blank_any s[a]
  rw [hb] at hbl
  have hnu := fun w hB => number_any s r a v w hsm (by omega) hB
  rw [decide_eq_false hn] at hnu
  have hn0 := fun w hB => name_any s r a 0 v w hsm (by omega) (by omega) hB
  rw [Nat.add_zero, hm] at hn0
  have hsg := sign_any s[a]
  rw [if_pos (by omega)] at hsg
  have hx1 : s.extract a m = strOf [s[a]] := by rw [ext_str s a m 1 (by omega), hX]; rfl
  have HX1 := Lib.hid hx1
  have HX := Lib.hid hB
  have HO := Lib.hid ho
  have HB := Lib.hid hb0
  have HC := Lib.hid hCC
  have HE := Lib.hid hE
  clear hB ho hb0 hC hE hX hx1 hCC hc hb hq hn hh ht hm hk hmm h64 hst
  have c0 : w.cell? ⟨r, 0, none⟩ = some (.string s) := HX.out.cell 0
  have c1 : w.cell? ⟨r, 1, none⟩ = some (.int .i64 (a : Int)) := HX.out.cell 1
  have fz := HX.out.frozen
  have hrl := HX.out.lt
  conv => arg 2; whnf
  unfold lxFrame
  go_wp2_with fail
  refine (hbl _).mono ?_; rintro e w' ⟨rfl, rfl⟩
  go_wp2_with fail
  refine (hnu _ HX.out).mono ?_; rintro e w2 ⟨rfl, hb2⟩
  have HO := Lib.hid (own_then HO.out hb2)
  have HB := Lib.hid (below_low HB.out HX.out.lt hb2)
  have HX := Lib.hid (HX.out.then_ hb2)
  clear hb2 c0 c1 fz hrl
  have c0 : w2.cell? ⟨r, 0, none⟩ = some (.string s) := HX.out.cell 0
  have c1 : w2.cell? ⟨r, 1, none⟩ = some (.int .i64 (a : Int)) := HX.out.cell 1
  have fz := HX.out.frozen
  have hrl := HX.out.lt
  go_wp2_with fail
  refine (hn1 _ HX.out).mono ?_; rintro e w2 ⟨rfl, hb2⟩
  have HO := Lib.hid (own_then HO.out hb2)
  have HB := Lib.hid (below_low HB.out HX.out.lt hb2)
  have HX := Lib.hid (HX.out.then_ hb2)
  clear hb2 c0 c1 fz hrl
  have c0 : w2.cell? ⟨r, 0, none⟩ = some (.string s) := HX.out.cell 0
  have c1 : w2.cell? ⟨r, 1, none⟩ = some (.int .i64 (a : Int)) := HX.out.cell 1
  have fz := HX.out.frozen
  have hrl := HX.out.lt
  go_wp2_with fail
  refine (hn0 _ HX.out).mono ?_; rintro e w2 ⟨rfl, hb2⟩
  have HO := Lib.hid (own_then HO.out hb2)
  have HB := Lib.hid (below_low HB.out HX.out.lt hb2)
  have HX := Lib.hid (HX.out.then_ hb2)
  clear hb2 c0 c1 fz hrl
  have c0 : w2.cell? ⟨r, 0, none⟩ = some (.string s) := HX.out.cell 0
  have c1 : w2.cell? ⟨r, 1, none⟩ = some (.int .i64 (a : Int)) := HX.out.cell 1
  have fz := HX.out.frozen
  have hrl := HX.out.lt
  go_wp2_with fail
  have hx3 : Lx (w2.setCell ⟨r, 1, none⟩ (.int .i64 (m : Int))) r s m v := HX.out.put 1 _
  have ho3 := own_put HO.out 1 (.int .i64 (m : Int))
  have hb3 := HB.out.setCell (p := ⟨r, 1, none⟩) (Nat.le_refl r) (.int .i64 (m : Int))
  refine (hsg _).mono ?_; rintro e w4 ⟨rfl, h4⟩
  rw [h4] at hx3 ho3 hb3
  have HX := Lib.hid hx3
  have HO := Lib.hid ho3
  have HB := Lib.hid hb3
  clear hx3 ho3 hb3 h4 c0 c1 fz hrl
  have c0 : w4.cell? ⟨r, 0, none⟩ = some (.string s) := HX.out.cell 0
  have c1 : w4.cell? ⟨r, 1, none⟩ = some (.int .i64 (m : Int)) := HX.out.cell 1
  have fz := HX.out.frozen
  have hrl := HX.out.lt
  have hx1 := HX1.out
  go_wp2_with fail
  refine wp_region_ext_tail 13 (by kernel_rfl) (by kernel_rfl) ?_
  simp only [List.take_succ_cons, List.take_zero, List.drop_succ_cons, List.drop_zero]
  repeat (go_big_quiet_step (fail))
  refine wpQuiet_nil ?_
  rintro _ ⟨u, rfl⟩
  go_wp2_with fail
  refine (put_any s r m v L (⟨19, [s[a]], 0⟩ : Tk) _ hLb (HX.out.then_ (below_ext w4 u)) (own_then HO.out (below_ext w4 u))).mono ?_
  rintro e w5 ⟨rfl, hlo, hb5⟩
  have HB := Lib.hid (HB.out.trans ((below_ext w4 u).mono (Nat.le_of_lt HX.out.lt) |>.trans hb5))
  have HLO := Lib.hid hlo
  clear hlo hb5
  go_wp2_with fail
  refine wp_goto ?_
  try simp only [Exit.inBlock, Exit.then]
  exact lq_again m _ (by rfl) hlt hle (by simp; omega) HC.out HLO.out HB.out

set_option maxHeartbeats 4000000 in
set_option maxRecDepth 100000 in
theorem next_end (s : ByteArray) (r : Nat) (v : Value) (L : List Tk) (w0 w : World) (C : List Tk) (Q : Exit → Act → World → Prop) (f : Nat → Value) (hs0 : s.size ≤ 1000000) (hC : L ++ cut (s.data.toList.drop s.size) = C)
    (hB : Lx w r s s.size v) (ho : w.ownsRow (r + 1) 23 3 v L.length (tkCells L)) (hb0 : Below r w0 w)
    (hret : ∀ (T : Array Value) (v : Value) (w' : World), T.getD 2 undef = v → w'.ownsRow (r + 1) 23 3 v C.length (tkCells C) → Below r w0 w' → Q .ret ⟨T, []⟩ w') :
    lexTop.wp Try.prog (LQ s r w0 C 0 s.size Q) ⟨lxFrame s r f, []⟩ w := by
  have dA : ((s.size : Int) == (s.size : Int)) = true := by simp
  rw [drop_end s s.size (Nat.le_refl _), cut_nil, List.append_nil] at hC
  subst hC
  have HX := Lib.hid hB
  have HO := Lib.hid ho
  have HB := Lib.hid hb0
  have HR := Lib.hid hret
  clear hB ho hb0 hret
  have c0 : w.cell? ⟨r, 0, none⟩ = some (.string s) := HX.out.cell 0
  have c1 : w.cell? ⟨r, 1, none⟩ = some (.int .i64 (s.size : Int)) := HX.out.cell 1
  have c2 : w.cell? ⟨r, 2, none⟩ = some v := HX.out.cell 2
  have fz := HX.out.frozen
  have hrl := HX.out.lt
  conv => arg 2; whnf
  unfold lxFrame
  go_wp2_with fail
  try simp only [Exit.inBlock, Exit.then]
  exact HR.out _ v w (by rfl) HO.out HB.out

theorem loop_any (s : ByteArray) (r a : Nat) (v : Value) (L : List Tk) (w0 w : World) (C : List Tk) (Q : Exit → Act → World → Prop) (f : Nat → Value) (hs0 : s.size ≤ 1000000) (hL : L.length ≤ a) (hC : L ++ cut (s.data.toList.drop a) = C)
    (hB : Lx w r s a v) (ho : w.ownsRow (r + 1) 23 3 v L.length (tkCells L)) (hb0 : Below r w0 w) (hle : a ≤ s.size)
    (hret : ∀ (T : Array Value) (v : Value) (w' : World), T.getD 2 undef = v → w'.ownsRow (r + 1) 23 3 v C.length (tkCells C) → Below r w0 w' → Q .ret ⟨T, []⟩ w') :
    lexTop.wp Try.prog (LQ s r w0 C 0 a Q) ⟨lxFrame s r f, []⟩ w := by
  by_cases he : a = s.size
  · subst he; exact next_end s r v L w0 w C Q f hs0 hC hB ho hb0 hret
  have ha : a < s.size := by omega
  by_cases hc : s[a].toNat = 47 ∧ heads 42 (s.data.toList.drop (a + 1)) = true
  · exact next_comment s r a v L w0 w C Q f hs0 hL hC hB ho hb0 ha hc
  cases hb : isS s[a] with
  | true => exact next_blank s r a v L w0 w C Q f hs0 hL hC hB ho hb0 ha hc hb
  | false =>
  by_cases hq : s[a].toNat = 34 ∨ s[a].toNat = 39
  · rcases hq with hq | hq
    · exact next_quote34 s r a v L w0 w C Q f hs0 hL hC hB ho hb0 ha hc hb hq
    · exact next_quote39 s r a v L w0 w C Q f hs0 hL hC hB ho hb0 ha hc hb hq
  by_cases hn : 0 < num (s.data.toList.drop a)
  · exact next_num s r a v L w0 w C Q f hs0 hL hC hB ho hb0 ha hc hb hq hn
  by_cases hh : s[a].toNat = 35 ∧ 0 < runL isG (s.data.toList.drop (a + 1))
  · exact next_hash s r a v L w0 w C Q f hs0 hL hC hB ho hb0 ha hc hb hq hn hh
  by_cases ht : s[a].toNat = 64 ∧ starts (s.data.toList.drop (a + 1)) = true
  · exact next_at s r a v L w0 w C Q f hs0 hL hC hB ho hb0 ha hc hb hq hn hh ht
  cases hm : starts (s.data.toList.drop a) with
  | true => exact next_name s r a v L w0 w C Q f hs0 hL hC hB ho hb0 ha hc hb hq hn hh ht hm
  | false =>
  by_cases hk : 0 < signK s[a].toNat
  · exact next_sign s r a v L w0 w C Q f hs0 hL hC hB ho hb0 ha hc hb hq hn hh ht hm hk
  by_cases h47 : s[a].toNat = 47
  · exact next_delim_slash s r a v L w0 w C Q f hs0 hL hC hB ho hb0 ha hc hb hq hn hh ht hm hk h47
  by_cases h35 : s[a].toNat = 35
  · by_cases hlt : a + 1 < s.size
    · exact next_delim_hashg s r a v L w0 w C Q f hs0 hL hC hB ho hb0 ha hc hb hq hn hh ht hm hk h35 hlt
    · exact next_delim_hashe s r a v L w0 w C Q f hs0 hL hC hB ho hb0 ha hc hb hq hn hh ht hm hk h35 hlt
  by_cases h64 : s[a].toNat = 64
  · exact next_delim_at s r a v L w0 w C Q f hs0 hL hC hB ho hb0 ha hc hb hq hn hh ht hm hk h64
  · exact next_delim_plain s r a v L w0 w C Q f hs0 hL hC hB ho hb0 ha hc hb hq hn hh ht hm hk h47 h35 h64

end Go.Proofs.Ytmicgfpiknibhaa
