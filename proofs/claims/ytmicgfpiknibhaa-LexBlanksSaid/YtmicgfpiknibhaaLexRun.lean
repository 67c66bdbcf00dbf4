/- The lexer passes bytes: run, for each function that it is given; put. -/
import Derived.Test.YtmicgfpiknibhaaLexPeek
import Derived.Test.YtmicgfpiknibhaaLexByte
namespace Go.Proofs.Ytmicgfpiknibhaa
open Go.RowKit
set_option linter.unusedSimpArgs false
set_option linter.unusedVariables false
attribute [local go_sem] cell?_ext frozen?_ext lt_size_ext

/-- Where the lexer is. -/
def atOf (w : World) (r : Nat) : Nat := match w.cell? ⟨r, 1, none⟩ with | some v => (intOf v).toNat | none => 0
theorem atOf_is {w : World} {r : Nat} {s : ByteArray} {a : Nat} {v : Value} (h : Lx w r s a v) : atOf w r = a := by
  have c1 : w.cell? ⟨r, 1, none⟩ = some (.int .i64 (a : Int)) := h.cell 1
  unfold atOf; rw [c1]; simp [intOf]

/-- The byte goes on a string of this quote. -/
theorem past_any (c : UInt8) (q g : Nat) (w : World) (hG : w.cell? ⟨g, 0, none⟩ = some (.int .u8 (q : Int))) (hg : g < w.heap.size) :
    Calls Try.prog 59 #[.int .u8 (c.toNat : Int), .pointer (some ⟨g, 0, none⟩)] w fun e w' => e = .returned (.bool (qp q c)) ∧ w = w' := by
  have e1 : ((c.toNat : Int) != (q : Int)) = !(decide (c.toNat = q)) := by unfold bne; rw [byte_eq]
  have e2 : ((c.toNat : Int) != 10) = !(decide (c.toNat = 10)) := by have := byte_eq c 10; unfold bne; rw [← this]; rfl
  unfold qp
  rw [← e1, ← e2]
  clear e1 e2
  cases h1 : ((c.toNat : Int) != (q : Int)) with
  | true =>
    go_enter Try.func59, Try.ntmps59
    go_wp2_with fail
    go_ret
    exact ⟨by simp, rfl⟩
  | false =>
    go_enter Try.func59, Try.ntmps59
    go_wp2_with fail
    go_ret
    exact ⟨by simp, rfl⟩

set_option maxHeartbeats 1000000 in
theorem run_goes (s : ByteArray) (r a : Nat) (v : Value) (w : World) (hs0 : s.size ≤ maxLen) (ha : a ≤ s.size) (hB : Lx w r s a v) :
    Calls Try.prog 36 #[.pointer (some ⟨r, 0, none⟩), .func (.func 31) #[] #[]] w fun e w' =>
      e = .returned (.string (strOf ((s.data.toList.drop a).take (runL isG (s.data.toList.drop a))))) ∧ Lx w' r s (a + runL isG (s.data.toList.drop a)) v ∧ Keeps (fun i => i = r) w w' := by
  have hs := hs0
  unfold maxLen at hs
  have HA := Lib.hid hB
  have c1 : w.cell? ⟨r, 1, none⟩ = some (.int .i64 (a : Int)) := hB.cell 1
  have hrl := hB.lt
  obtain ⟨k, hk⟩ : ∃ k, k = runL isG (s.data.toList.drop a) := ⟨_, rfl⟩
  have HKK := Lib.hid hk
  rw [← hk]
  clear hB hk
  go_enter Try.func36, Try.ntmps36
  go_wp2_with fail
  go_loopw [] (fun wr => ∃ j m : Nat, m = a + j ∧ m ≤ s.size ∧ j + runL isG (s.data.toList.drop m) = k ∧ Lx wr r s m v ∧ Keeps (fun i => i = r) w wr) (fun wr => s.size - atOf wr r)
  case atStart => exact ⟨0, a, by omega, ha, by rw [HKK.out]; simp, HA.out, Keeps.refl _ _⟩
  case round =>
    clear c1 hrl
    obtain ⟨j, m, hjm, hj, hn, hx, hkp⟩ := hrel
    have c0 : wr.cell? ⟨r, 0, none⟩ = some (.string s) := hx.cell 0
    have c1 : wr.cell? ⟨r, 1, none⟩ = some (.int .i64 (m : Int)) := hx.cell 1
    have fz := hx.frozen
    have hrl := hx.lt
    have HX := Lib.hid hx
    have HK := Lib.hid hkp
    have HN := Lib.hid hn
    have HJ := Lib.hid hjm
    have hat := Lib.hid (atOf_is hx)
    have hjm2 : (a : Int) ≤ (m : Int) := by omega
    clear hx hkp hn hjm
    by_cases hlt : m < s.size
    · have d0 : decide ((m : Int) < (s.size : Int)) = true := decide_eq_true (by omega)
      have hd := runL_at isG s m hlt
      have h8 : s[m].toNat < 256 := s[m].toNat_lt
      cases hp : isG s[m] with
      | true =>
        have hcl := fun w => goes_any s[m] w
        rw [hp] at hcl
        rw [if_pos hp] at hd
        have HD := Lib.hid hd
        clear hd hp
        go_wp2_with fail
        refine wp_region_ext (by kernel_rfl) (by kernel_rfl) ?_
        repeat (go_big_quiet_step ((go_at_call 31; exact quiet_ext_same (hcl _))))
        refine wpQuiet_nil ?_
        rintro _ ⟨u, rfl⟩
        go_wp2_with fail
        go_roundw
        case rel => exact ⟨j + 1, m + 1, (by have := HJ.out; omega), by omega, (by have := HD.out; have := HN.out; omega), (HX.out.then_ (below_ext wr u)).put 1 _, Keeps.put (X := fun i => i = r) (HK.out.then_ (below_ext wr u)) (.inl rfl) _⟩
        case measure =>
          have h3 := atOf_is (show Lx ((ext wr u).setCell ⟨r, 1, none⟩ (.int .i64 ((m + 1 : Nat) : Int))) r s (m + 1) v from (HX.out.then_ (below_ext wr u)).put 1 _)
          have h4 := hat.out
          rw [show (((m + 1 : Nat) : Int)) = (m : Int) + 1 by omega] at h3
          rw [h3, h4]; omega
      | false =>
        have hcl := fun w => goes_any s[m] w
        rw [hp] at hcl
        rw [if_neg (by rw [hp]; simp)] at hd
        have HE : Hid (j = k) := Lib.hid (by have := HN.out; omega)
        clear hd hp
        go_wp2_with fail
        refine wp_region_ext (by kernel_rfl) (by kernel_rfl) ?_
        repeat (go_big_quiet_step ((go_at_call 31; exact quiet_ext_same (hcl _))))
        refine wpQuiet_nil ?_
        rintro _ ⟨u, rfl⟩
        go_wp2_with fail
        refine wp_region_ext2 (by kernel_rfl) (by kernel_rfl) ?_
        repeat (go_big_quiet_step (fail))
        refine wpQuiet_nil ?_
        rintro _ ⟨u2, rfl⟩
        go_wp2_with fail
        go_ret
        obtain rfl := HE.out
        obtain rfl := HJ.out
        exact ⟨by rw [← ext_str s a (a + j) j (by omega)]; rfl, HX.out.then_ (below_ext wr u2), HK.out.then_ (below_ext wr u2)⟩
    · have d0 : decide ((m : Int) < (s.size : Int)) = false := decide_eq_false (by omega)
      have hd := runL_end isG s m (by omega)
      have HE : Hid (j = k) := Lib.hid (by have := HN.out; omega)
      clear hd
      go_wp2_with fail
      refine wp_region_ext (by kernel_rfl) (by kernel_rfl) ?_
      repeat (go_big_quiet_step (fail))
      refine wpQuiet_nil ?_
      rintro _ ⟨u, rfl⟩
      go_wp2_with fail
      refine wp_region_ext2 (by kernel_rfl) (by kernel_rfl) ?_
      repeat (go_big_quiet_step (fail))
      refine wpQuiet_nil ?_
      rintro _ ⟨u2, rfl⟩
      go_wp2_with fail
      go_ret
      obtain rfl := HE.out
      obtain rfl := HJ.out
      exact ⟨by rw [← ext_str s a (a + j) j (by omega)]; rfl, HX.out.then_ (below_ext wr u2), HK.out.then_ (below_ext wr u2)⟩

set_option maxHeartbeats 1000000 in
theorem run_digit (s : ByteArray) (r a : Nat) (v : Value) (w : World) (hs0 : s.size ≤ maxLen) (ha : a ≤ s.size) (hB : Lx w r s a v) :
    Calls Try.prog 36 #[.pointer (some ⟨r, 0, none⟩), .func (.func 57) #[] #[]] w fun e w' =>
      e = .returned (.string (strOf ((s.data.toList.drop a).take (runL isD (s.data.toList.drop a))))) ∧ Lx w' r s (a + runL isD (s.data.toList.drop a)) v ∧ Keeps (fun i => i = r) w w' := by
  have hs := hs0
  unfold maxLen at hs
  have HA := Lib.hid hB
  have c1 : w.cell? ⟨r, 1, none⟩ = some (.int .i64 (a : Int)) := hB.cell 1
  have hrl := hB.lt
  obtain ⟨k, hk⟩ : ∃ k, k = runL isD (s.data.toList.drop a) := ⟨_, rfl⟩
  have HKK := Lib.hid hk
  rw [← hk]
  clear hB hk
  go_enter Try.func36, Try.ntmps36
  go_wp2_with fail
  go_loopw [] (fun wr => ∃ j m : Nat, m = a + j ∧ m ≤ s.size ∧ j + runL isD (s.data.toList.drop m) = k ∧ Lx wr r s m v ∧ Keeps (fun i => i = r) w wr) (fun wr => s.size - atOf wr r)
  case atStart => exact ⟨0, a, by omega, ha, by rw [HKK.out]; simp, HA.out, Keeps.refl _ _⟩
  case round =>
    clear c1 hrl
    obtain ⟨j, m, hjm, hj, hn, hx, hkp⟩ := hrel
    have c0 : wr.cell? ⟨r, 0, none⟩ = some (.string s) := hx.cell 0
    have c1 : wr.cell? ⟨r, 1, none⟩ = some (.int .i64 (m : Int)) := hx.cell 1
    have fz := hx.frozen
    have hrl := hx.lt
    have HX := Lib.hid hx
    have HK := Lib.hid hkp
    have HN := Lib.hid hn
    have HJ := Lib.hid hjm
    have hat := Lib.hid (atOf_is hx)
    have hjm2 : (a : Int) ≤ (m : Int) := by omega
    clear hx hkp hn hjm
    by_cases hlt : m < s.size
    · have d0 : decide ((m : Int) < (s.size : Int)) = true := decide_eq_true (by omega)
      have hd := runL_at isD s m hlt
      have h8 : s[m].toNat < 256 := s[m].toNat_lt
      cases hp : isD s[m] with
      | true =>
        have hcl := fun w => digit_any s[m] w
        rw [hp] at hcl
        rw [if_pos hp] at hd
        have HD := Lib.hid hd
        clear hd hp
        go_wp2_with fail
        refine wp_region_ext (by kernel_rfl) (by kernel_rfl) ?_
        repeat (go_big_quiet_step ((go_at_call 57; exact quiet_ext_same (hcl _))))
        refine wpQuiet_nil ?_
        rintro _ ⟨u, rfl⟩
        go_wp2_with fail
        go_roundw
        case rel => exact ⟨j + 1, m + 1, (by have := HJ.out; omega), by omega, (by have := HD.out; have := HN.out; omega), (HX.out.then_ (below_ext wr u)).put 1 _, Keeps.put (X := fun i => i = r) (HK.out.then_ (below_ext wr u)) (.inl rfl) _⟩
        case measure =>
          have h3 := atOf_is (show Lx ((ext wr u).setCell ⟨r, 1, none⟩ (.int .i64 ((m + 1 : Nat) : Int))) r s (m + 1) v from (HX.out.then_ (below_ext wr u)).put 1 _)
          have h4 := hat.out
          rw [show (((m + 1 : Nat) : Int)) = (m : Int) + 1 by omega] at h3
          rw [h3, h4]; omega
      | false =>
        have hcl := fun w => digit_any s[m] w
        rw [hp] at hcl
        rw [if_neg (by rw [hp]; simp)] at hd
        have HE : Hid (j = k) := Lib.hid (by have := HN.out; omega)
        clear hd hp
        go_wp2_with fail
        refine wp_region_ext (by kernel_rfl) (by kernel_rfl) ?_
        repeat (go_big_quiet_step ((go_at_call 57; exact quiet_ext_same (hcl _))))
        refine wpQuiet_nil ?_
        rintro _ ⟨u, rfl⟩
        go_wp2_with fail
        refine wp_region_ext2 (by kernel_rfl) (by kernel_rfl) ?_
        repeat (go_big_quiet_step (fail))
        refine wpQuiet_nil ?_
        rintro _ ⟨u2, rfl⟩
        go_wp2_with fail
        go_ret
        obtain rfl := HE.out
        obtain rfl := HJ.out
        exact ⟨by rw [← ext_str s a (a + j) j (by omega)]; rfl, HX.out.then_ (below_ext wr u2), HK.out.then_ (below_ext wr u2)⟩
    · have d0 : decide ((m : Int) < (s.size : Int)) = false := decide_eq_false (by omega)
      have hd := runL_end isD s m (by omega)
      have HE : Hid (j = k) := Lib.hid (by have := HN.out; omega)
      clear hd
      go_wp2_with fail
      refine wp_region_ext (by kernel_rfl) (by kernel_rfl) ?_
      repeat (go_big_quiet_step (fail))
      refine wpQuiet_nil ?_
      rintro _ ⟨u, rfl⟩
      go_wp2_with fail
      refine wp_region_ext2 (by kernel_rfl) (by kernel_rfl) ?_
      repeat (go_big_quiet_step (fail))
      refine wpQuiet_nil ?_
      rintro _ ⟨u2, rfl⟩
      go_wp2_with fail
      go_ret
      obtain rfl := HE.out
      obtain rfl := HJ.out
      exact ⟨by rw [← ext_str s a (a + j) j (by omega)]; rfl, HX.out.then_ (below_ext wr u2), HK.out.then_ (below_ext wr u2)⟩

set_option maxHeartbeats 1000000 in
theorem run_blank (s : ByteArray) (r a : Nat) (v : Value) (w : World) (hs0 : s.size ≤ maxLen) (ha : a ≤ s.size) (hB : Lx w r s a v) :
    Calls Try.prog 36 #[.pointer (some ⟨r, 0, none⟩), .func (.func 29) #[] #[]] w fun e w' =>
      e = .returned (.string (strOf ((s.data.toList.drop a).take (runL isS (s.data.toList.drop a))))) ∧ Lx w' r s (a + runL isS (s.data.toList.drop a)) v ∧ Keeps (fun i => i = r) w w' := by
  have hs := hs0
  unfold maxLen at hs
  have HA := Lib.hid hB
  have c1 : w.cell? ⟨r, 1, none⟩ = some (.int .i64 (a : Int)) := hB.cell 1
  have hrl := hB.lt
  obtain ⟨k, hk⟩ : ∃ k, k = runL isS (s.data.toList.drop a) := ⟨_, rfl⟩
  have HKK := Lib.hid hk
  rw [← hk]
  clear hB hk
  go_enter Try.func36, Try.ntmps36
  go_wp2_with fail
  go_loopw [] (fun wr => ∃ j m : Nat, m = a + j ∧ m ≤ s.size ∧ j + runL isS (s.data.toList.drop m) = k ∧ Lx wr r s m v ∧ Keeps (fun i => i = r) w wr) (fun wr => s.size - atOf wr r)
  case atStart => exact ⟨0, a, by omega, ha, by rw [HKK.out]; simp, HA.out, Keeps.refl _ _⟩
  case round =>
    clear c1 hrl
    obtain ⟨j, m, hjm, hj, hn, hx, hkp⟩ := hrel
    have c0 : wr.cell? ⟨r, 0, none⟩ = some (.string s) := hx.cell 0
    have c1 : wr.cell? ⟨r, 1, none⟩ = some (.int .i64 (m : Int)) := hx.cell 1
    have fz := hx.frozen
    have hrl := hx.lt
    have HX := Lib.hid hx
    have HK := Lib.hid hkp
    have HN := Lib.hid hn
    have HJ := Lib.hid hjm
    have hat := Lib.hid (atOf_is hx)
    have hjm2 : (a : Int) ≤ (m : Int) := by omega
    clear hx hkp hn hjm
    by_cases hlt : m < s.size
    · have d0 : decide ((m : Int) < (s.size : Int)) = true := decide_eq_true (by omega)
      have hd := runL_at isS s m hlt
      have h8 : s[m].toNat < 256 := s[m].toNat_lt
      cases hp : isS s[m] with
      | true =>
        have hcl := fun w => blank_any s[m] w
        rw [hp] at hcl
        rw [if_pos hp] at hd
        have HD := Lib.hid hd
        clear hd hp
        go_wp2_with fail
        refine wp_region_ext (by kernel_rfl) (by kernel_rfl) ?_
        repeat (go_big_quiet_step ((go_at_call 29; exact quiet_ext_same (hcl _))))
        refine wpQuiet_nil ?_
        rintro _ ⟨u, rfl⟩
        go_wp2_with fail
        go_roundw
        case rel => exact ⟨j + 1, m + 1, (by have := HJ.out; omega), by omega, (by have := HD.out; have := HN.out; omega), (HX.out.then_ (below_ext wr u)).put 1 _, Keeps.put (X := fun i => i = r) (HK.out.then_ (below_ext wr u)) (.inl rfl) _⟩
        case measure =>
          have h3 := atOf_is (show Lx ((ext wr u).setCell ⟨r, 1, none⟩ (.int .i64 ((m + 1 : Nat) : Int))) r s (m + 1) v from (HX.out.then_ (below_ext wr u)).put 1 _)
          have h4 := hat.out
          rw [show (((m + 1 : Nat) : Int)) = (m : Int) + 1 by omega] at h3
          rw [h3, h4]; omega
      | false =>
        have hcl := fun w => blank_any s[m] w
        rw [hp] at hcl
        rw [if_neg (by rw [hp]; simp)] at hd
        have HE : Hid (j = k) := Lib.hid (by have := HN.out; omega)
        clear hd hp
        go_wp2_with fail
        refine wp_region_ext (by kernel_rfl) (by kernel_rfl) ?_
        repeat (go_big_quiet_step ((go_at_call 29; exact quiet_ext_same (hcl _))))
        refine wpQuiet_nil ?_
        rintro _ ⟨u, rfl⟩
        go_wp2_with fail
        refine wp_region_ext2 (by kernel_rfl) (by kernel_rfl) ?_
        repeat (go_big_quiet_step (fail))
        refine wpQuiet_nil ?_
        rintro _ ⟨u2, rfl⟩
        go_wp2_with fail
        go_ret
        obtain rfl := HE.out
        obtain rfl := HJ.out
        exact ⟨by rw [← ext_str s a (a + j) j (by omega)]; rfl, HX.out.then_ (below_ext wr u2), HK.out.then_ (below_ext wr u2)⟩
    · have d0 : decide ((m : Int) < (s.size : Int)) = false := decide_eq_false (by omega)
      have hd := runL_end isS s m (by omega)
      have HE : Hid (j = k) := Lib.hid (by have := HN.out; omega)
      clear hd
      go_wp2_with fail
      refine wp_region_ext (by kernel_rfl) (by kernel_rfl) ?_
      repeat (go_big_quiet_step (fail))
      refine wpQuiet_nil ?_
      rintro _ ⟨u, rfl⟩
      go_wp2_with fail
      refine wp_region_ext2 (by kernel_rfl) (by kernel_rfl) ?_
      repeat (go_big_quiet_step (fail))
      refine wpQuiet_nil ?_
      rintro _ ⟨u2, rfl⟩
      go_wp2_with fail
      go_ret
      obtain rfl := HE.out
      obtain rfl := HJ.out
      exact ⟨by rw [← ext_str s a (a + j) j (by omega)]; rfl, HX.out.then_ (below_ext wr u2), HK.out.then_ (below_ext wr u2)⟩

set_option maxHeartbeats 1000000 in
theorem run_past (s : ByteArray) (r a q g : Nat) (v : Value) (w : World) (hs0 : s.size ≤ maxLen) (ha : a ≤ s.size) (hB : Lx w r s a v) (hG : Blk w g 5 #[.int .u8 (q : Int)]) (hgr : g ≠ r) :
    Calls Try.prog 36 #[.pointer (some ⟨r, 0, none⟩), .func (.func 59) #[] #[.pointer (some ⟨g, 0, none⟩)]] w fun e w' =>
      e = .returned (.string (strOf ((s.data.toList.drop a).take (runL (qp q) (s.data.toList.drop a))))) ∧ Lx w' r s (a + runL (qp q) (s.data.toList.drop a)) v ∧ Keeps (fun i => i = r) w w' := by
  have hs := hs0
  unfold maxLen at hs
  have HA := Lib.hid hB
  have HGL := Lib.hid hG.lt
  have HGG : Hid (∀ wr, Keeps (fun i => i = r) w wr → wr.cell? ⟨g, 0, none⟩ = some (.int .u8 (q : Int))) := Lib.hid fun wr hk => (hk.cell (p := ⟨g, 0, none⟩) hG.lt hgr).trans (hG.cell 0)
  clear hG
  have c1 : w.cell? ⟨r, 1, none⟩ = some (.int .i64 (a : Int)) := hB.cell 1
  have hrl := hB.lt
  obtain ⟨k, hk⟩ : ∃ k, k = runL (qp q) (s.data.toList.drop a) := ⟨_, rfl⟩
  have HKK := Lib.hid hk
  rw [← hk]
  clear hB hk
  go_enter Try.func36, Try.ntmps36
  go_wp2_with fail
  go_loopw [] (fun wr => ∃ j m : Nat, m = a + j ∧ m ≤ s.size ∧ j + runL (qp q) (s.data.toList.drop m) = k ∧ Lx wr r s m v ∧ Keeps (fun i => i = r) w wr) (fun wr => s.size - atOf wr r)
  case atStart => exact ⟨0, a, by omega, ha, by rw [HKK.out]; simp, HA.out, Keeps.refl _ _⟩
  case round =>
    clear c1 hrl
    obtain ⟨j, m, hjm, hj, hn, hx, hkp⟩ := hrel
    have c0 : wr.cell? ⟨r, 0, none⟩ = some (.string s) := hx.cell 0
    have c1 : wr.cell? ⟨r, 1, none⟩ = some (.int .i64 (m : Int)) := hx.cell 1
    have fz := hx.frozen
    have hrl := hx.lt
    have HX := Lib.hid hx
    have HK := Lib.hid hkp
    have HN := Lib.hid hn
    have HJ := Lib.hid hjm
    have hat := Lib.hid (atOf_is hx)
    have hjm2 : (a : Int) ≤ (m : Int) := by omega
    clear hx hkp hn hjm
    by_cases hlt : m < s.size
    · have d0 : decide ((m : Int) < (s.size : Int)) = true := decide_eq_true (by omega)
      have hd := runL_at (qp q) s m hlt
      have h8 : s[m].toNat < 256 := s[m].toNat_lt
      cases hp : (qp q) s[m] with
      | true =>
        have hcl : ∀ u, Calls Try.prog 59 #[.int .u8 (s[m].toNat : Int), .pointer (some ⟨g, 0, none⟩)] (ext wr u) fun e w' => e = .returned (.bool (qp q s[m])) ∧ ext wr u = w' := fun u => past_any s[m] q g (ext wr u) (cell_ext (HGG.out wr HK.out) u) (Nat.lt_of_lt_of_le (Nat.lt_of_lt_of_le HGL.out HK.out.size) (size_ext wr u))
        rw [hp] at hcl
        rw [if_pos hp] at hd
        have HD := Lib.hid hd
        clear hd hp
        go_wp2_with fail
        refine wp_region_ext (by kernel_rfl) (by kernel_rfl) ?_
        repeat (go_big_quiet_step ((go_at_call 59; exact quiet_ext_same (hcl _))))
        refine wpQuiet_nil ?_
        rintro _ ⟨u, rfl⟩
        go_wp2_with fail
        go_roundw
        case rel => exact ⟨j + 1, m + 1, (by have := HJ.out; omega), by omega, (by have := HD.out; have := HN.out; omega), (HX.out.then_ (below_ext wr u)).put 1 _, Keeps.put (X := fun i => i = r) (HK.out.then_ (below_ext wr u)) (.inl rfl) _⟩
        case measure =>
          have h3 := atOf_is (show Lx ((ext wr u).setCell ⟨r, 1, none⟩ (.int .i64 ((m + 1 : Nat) : Int))) r s (m + 1) v from (HX.out.then_ (below_ext wr u)).put 1 _)
          have h4 := hat.out
          rw [show (((m + 1 : Nat) : Int)) = (m : Int) + 1 by omega] at h3
          rw [h3, h4]; omega
      | false =>
        have hcl : ∀ u, Calls Try.prog 59 #[.int .u8 (s[m].toNat : Int), .pointer (some ⟨g, 0, none⟩)] (ext wr u) fun e w' => e = .returned (.bool (qp q s[m])) ∧ ext wr u = w' := fun u => past_any s[m] q g (ext wr u) (cell_ext (HGG.out wr HK.out) u) (Nat.lt_of_lt_of_le (Nat.lt_of_lt_of_le HGL.out HK.out.size) (size_ext wr u))
        rw [hp] at hcl
        rw [if_neg (by rw [hp]; simp)] at hd
        have HE : Hid (j = k) := Lib.hid (by have := HN.out; omega)
        clear hd hp
        go_wp2_with fail
        refine wp_region_ext (by kernel_rfl) (by kernel_rfl) ?_
        repeat (go_big_quiet_step ((go_at_call 59; exact quiet_ext_same (hcl _))))
        refine wpQuiet_nil ?_
        rintro _ ⟨u, rfl⟩
        go_wp2_with fail
        refine wp_region_ext2 (by kernel_rfl) (by kernel_rfl) ?_
        repeat (go_big_quiet_step (fail))
        refine wpQuiet_nil ?_
        rintro _ ⟨u2, rfl⟩
        go_wp2_with fail
        go_ret
        obtain rfl := HE.out
        obtain rfl := HJ.out
        exact ⟨by rw [← ext_str s a (a + j) j (by omega)]; rfl, HX.out.then_ (below_ext wr u2), HK.out.then_ (below_ext wr u2)⟩
    · have d0 : decide ((m : Int) < (s.size : Int)) = false := decide_eq_false (by omega)
      have hd := runL_end (qp q) s m (by omega)
      have HE : Hid (j = k) := Lib.hid (by have := HN.out; omega)
      clear hd
      go_wp2_with fail
      refine wp_region_ext (by kernel_rfl) (by kernel_rfl) ?_
      repeat (go_big_quiet_step (fail))
      refine wpQuiet_nil ?_
      rintro _ ⟨u, rfl⟩
      go_wp2_with fail
      refine wp_region_ext2 (by kernel_rfl) (by kernel_rfl) ?_
      repeat (go_big_quiet_step (fail))
      refine wpQuiet_nil ?_
      rintro _ ⟨u2, rfl⟩
      go_wp2_with fail
      go_ret
      obtain rfl := HE.out
      obtain rfl := HJ.out
      exact ⟨by rw [← ext_str s a (a + j) j (by omega)]; rfl, HX.out.then_ (below_ext wr u2), HK.out.then_ (below_ext wr u2)⟩
end Go.Proofs.Ytmicgfpiknibhaa
