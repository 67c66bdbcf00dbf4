/- The reader's digits: those of the whole, and those behind the point. -/
import Derived.Test.YtmicgfpiknibhaaReader
import Derived.IntWalk
namespace Go.Proofs.Ytmicgfpiknibhaa
open Go.RowKit
set_option linter.unusedSimpArgs false
set_option linter.unusedVariables false

/-- The whole of some digits. -/
def wholeF (l : List UInt8) (a : Int) : Int := l.foldl (fun a c => wholeN a ((c.toNat : Int) - 48)) a
/-- The part of some digits behind the point, and what the next is worth. -/
def partF (l : List UInt8) (q : Int × Int) : Int × Int := l.foldl (fun q c => (q.1 + ((c.toNat : Int) - 48) * q.2, q.2 / 10)) q
theorem wholeF_snoc (l : List UInt8) (c : UInt8) (a : Int) : wholeF (l ++ [c]) a = wholeN (wholeF l a) ((c.toNat : Int) - 48) := by simp [wholeF, List.foldl_append]
theorem partF_snoc (l : List UInt8) (c : UInt8) (q : Int × Int) : partF (l ++ [c]) q = ((partF l q).1 + ((c.toNat : Int) - 48) * (partF l q).2, (partF l q).2 / 10) := by simp [partF, List.foldl_append]
theorem take_drop_snoc (s : ByteArray) (k j : Nat) (h : k + j < s.size) : (s.data.toList.drop k).take (j + 1) = (s.data.toList.drop k).take j ++ [s[k + j]] := by
  have hl : j < (s.data.toList.drop k).length := by rw [List.length_drop, len_data]; omega
  rw [List.take_succ_eq_append_getElem hl, List.getElem_drop]; rfl

/-- The digits that a run of digits begins with are all digits. -/
theorem dgs_take : ∀ (l : List UInt8) (c : UInt8), c ∈ l.take (dgs l) → isD c = true
  | [], c, h => by simp at h
  | x :: t, c, h => by
    unfold dgs at h
    by_cases hx : isD x = true
    · rw [if_pos hx, List.take_succ_cons, List.mem_cons] at h
      rcases h with rfl | h
      · exact hx
      · exact dgs_take t c h
    · rw [if_neg hx] at h; simp at h

theorem wholeN_bd (a d : Int) (h1 : 0 ≤ a) (h2 : a ≤ 1073741824) (h3 : 0 ≤ d) : 0 ≤ wholeN a d ∧ wholeN a d ≤ 1073741824 := by unfold wholeN; split <;> omega
theorem wholeF_bd : ∀ (l : List UInt8) (a : Int), (∀ c ∈ l, isD c = true) → 0 ≤ a → a ≤ 1073741824 → 0 ≤ wholeF l a ∧ wholeF l a ≤ 1073741824
  | [], a, _, h1, h2 => ⟨h1, h2⟩
  | c :: t, a, h, h1, h2 => by
    have hc := (isD_iff c).1 (h c (by simp))
    have := wholeN_bd a ((c.toNat : Int) - 48) h1 h2 (by omega)
    exact wholeF_bd t _ (fun x hx => h x (by simp [hx])) this.1 this.2
/-- What is gathered behind the point stays small: p and 10 times what is worth stay below 1000. -/
theorem partF_bd : ∀ (l : List UInt8) (p q : Int), (∀ c ∈ l, isD c = true) → 0 ≤ p → 0 ≤ q → q ≤ 100 → p + 10 * q ≤ 1000 → 0 ≤ (partF l (p, q)).1 ∧ (partF l (p, q)).1 ≤ 1000 ∧ 0 ≤ (partF l (p, q)).2 ∧ (partF l (p, q)).2 ≤ 100
  | [], p, q, _, h1, h2, h3, h4 => ⟨h1, by show p ≤ 1000; omega, h2, h3⟩
  | c :: t, p, q, h, h1, h2, h3, h4 => by
    have hc := (isD_iff c).1 (h c (by simp))
    have hm : 0 ≤ ((c.toNat : Int) - 48) * q ∧ ((c.toNat : Int) - 48) * q ≤ 9 * q := ⟨Int.mul_nonneg (by omega) h2, Int.mul_le_mul_of_nonneg_right (by omega) h2⟩
    exact partF_bd t (p + ((c.toNat : Int) - 48) * q) (q / 10) (fun x hx => h x (by simp [hx])) (by omega) (by omega) (by omega) (by omega)

attribute [local go_sem] cell?_ext frozen?_ext lt_size_ext

set_option maxHeartbeats 4000000 in
theorem digits_whole (s : ByteArray) (r k g : Nat) (a : Int) (w : World) (hs0 : s.size ≤ maxLen) (hk : k ≤ s.size) (hrg : r ≠ g) (ha0 : 0 ≤ a) (ha1 : a ≤ 1073741824) (hB : Rd w r s k) (hG : Blk w g 3 #[.int .i64 a]) :
    Calls Try.prog 75 #[.pointer (some ⟨r, 0, none⟩), .func (.func 76) #[] #[.pointer (some ⟨g, 0, none⟩)]] w fun e w' =>
      e = .returned (.int .i64 (dgs (s.data.toList.drop k))) ∧ Rd w' r s (k + dgs (s.data.toList.drop k)) ∧ Blk w' g 3 #[.int .i64 (wholeF ((s.data.toList.drop k).take (dgs (s.data.toList.drop k))) a)] ∧ Keeps (fun i => i = r ∨ i = g) w w' := by
  have hs := hs0
  unfold maxLen at hs
  have HB := Lib.hid hB
  have HG0 := Lib.hid (by simpa [wholeF] using hG : Blk w g 3 #[.int .i64 (wholeF ((s.data.toList.drop k).take 0) a)])
  clear hB hG
  go_enter Try.func75, Try.ntmps75
  go_wp2_with fail
  go_loopw [5] (fun n wr => ∃ j m : Nat, n = .int .i64 j ∧ m = k + j ∧ m ≤ s.size ∧ j + dgs (s.data.toList.drop m) = dgs (s.data.toList.drop k) ∧ Rd wr r s m ∧ Blk wr g 3 #[.int .i64 (wholeF ((s.data.toList.drop k).take j) a)] ∧ Keeps (fun i => i = r ∨ i = g) w wr) (fun n _ => s.size - k - (intOf n).toNat)
  case atStart => exact ⟨0, k, rfl, by omega, hk, by simp, HB.out, HG0.out, Keeps.refl _ _⟩
  case round =>
    obtain ⟨j, m, rfl, hjm, hj, hn, hr, hg, hkp⟩ := hrel
    have c0 : wr.cell? ⟨r, 0, none⟩ = some (.string s) := hr.cell 0
    have c1 : wr.cell? ⟨r, 1, none⟩ = some (.int .i64 (m : Int)) := hr.cell 1
    have fz := hr.frozen
    have hrl := hr.lt
    have HR := Lib.hid hr
    have HG := Lib.hid hg
    have HK := Lib.hid hkp
    have HN := Lib.hid hn
    have hbd := wholeF_bd ((s.data.toList.drop k).take j) a (fun c hc => dgs_take (s.data.toList.drop k) c (by
      have e : (s.data.toList.drop k).take j = ((s.data.toList.drop k).take (dgs (s.data.toList.drop k))).take j := by rw [List.take_take, Nat.min_eq_left (by omega)]
      rw [e] at hc; exact List.mem_of_mem_take hc)) ha0 ha1
    have HJ := Lib.hid hjm
    have hjm2 : j ≤ m := by omega
    clear hr hg hkp hn hjm
    by_cases hlt : m < s.size
    · have hd := dgs_at s m hlt
      have h8 : s[m].toNat < 256 := s[m].toNat_lt
      by_cases h1 : 48 ≤ (s[m].toNat : Int)
      · by_cases h2 : (s[m].toNat : Int) ≤ 57
        · rw [if_pos ((isD_iff _).2 ⟨by omega, by omega⟩)] at hd
          have HD := Lib.hid hd
          clear hd
          have d1 : decide (48 ≤ (s[m].toNat : Int)) = true := decide_eq_true h1
          have d2 : decide ((s[m].toNat : Int) ≤ 57) = true := decide_eq_true h2
          have a1 : IntKind.u8.wrap ((s[m].toNat : Int) - 48) = (s[m].toNat : Int) - 48 := by unfold IntKind.wrap; simp [IntKind.bits, IntKind.signed]; omega
          have a2 : IntKind.i64.wrap ((s[m].toNat : Int) - 48) = (s[m].toNat : Int) - 48 := IntWalk.i64_in _ (by omega)
          go_wp2_with fail
          refine wp_region_ext (by kernel_rfl) (by kernel_rfl) ?_
          repeat (go_big_quiet_step (fail))
          refine wpQuiet_nil ?_
          rintro _ ⟨u, rfl⟩
          go_wp2_with fail
          refine wp_region_ext_tail2 12 (by kernel_rfl) (by kernel_rfl) ?_
          simp only [List.take_succ_cons, List.take_zero, List.drop_succ_cons, List.drop_zero]
          repeat (go_big_quiet_step (fail))
          refine wpQuiet_nil ?_
          rintro _ ⟨u2, rfl⟩
          go_wp2_with fail
          refine (whole_any ((s[m].toNat : Int) - 48) _ g _ (by omega) (by omega) hbd.1 hbd.2 (HG.out.then_ (below_ext wr u2))).mono ?_
          rintro e w2 ⟨rfl, hg2, hk2⟩
          rw [← wholeF_snoc] at hg2
          have e1 : (s.data.toList.drop k).take j ++ [s[m]] = (s.data.toList.drop k).take (j + 1) := by obtain rfl := HJ.out; exact (take_drop_snoc s k j hlt).symm
          rw [e1] at hg2
          have hr2 : Rd w2 r s m := Blk.of_kept (HR.out.then_ (below_ext wr u2)) (hk2.block r (HR.out.then_ (below_ext wr u2)).lt hrg)
          have q1 : w2.cell? ⟨r, 1, none⟩ = some (.int .i64 (m : Int)) := hr2.cell 1
          have fz2 := hr2.frozen
          have hrl2 := hr2.lt
          have HG2 := Lib.hid hg2
          have HR2 := Lib.hid hr2
          have HK2 := Lib.hid hk2
          clear hg2 hr2 hk2 e1
          go_wp2_with fail
          go_roundw
          case rel =>
            refine ⟨j + 1, m + 1, by go_num, (by have := HJ.out; omega), by omega, (by have := HD.out; have := HN.out; omega), ?_, HG2.out.far (p := ⟨r, 1, none⟩) (Ne.symm hrg) _, ?_⟩
            · exact HR2.out.put 1 _
            · exact Keeps.put (X := fun i => i = r ∨ i = g) ((HK.out.then_ (below_ext wr u2)).trans (HK2.out.mono fun i hi => .inr hi)) (.inl (.inl rfl)) _
          case measure => simp [intOf]; have := HJ.out; omega
        · rw [if_neg (by rw [isD_iff]; omega)] at hd
          have HD := Lib.hid hd
          clear hd
          have d1 : decide (48 ≤ (s[m].toNat : Int)) = true := decide_eq_true h1
          have d2 : decide ((s[m].toNat : Int) ≤ 57) = false := decide_eq_false h2
          go_wp2_with fail
          refine wp_region_ext (by kernel_rfl) (by kernel_rfl) ?_
          repeat (go_big_quiet_step (fail))
          refine wpQuiet_nil ?_
          rintro _ ⟨u, rfl⟩
          go_wp2_with fail
          go_ret
          obtain rfl := HJ.out; have e : j = dgs (s.data.toList.drop k) := (by have := HD.out; have := HN.out; omega); rw [← e]; exact ⟨rfl, HR.out.then_ (below_ext wr u), HG.out.then_ (below_ext wr u), HK.out.then_ (below_ext wr u)⟩
      · rw [if_neg (by rw [isD_iff]; omega)] at hd
        have HD := Lib.hid hd
        clear hd
        have d1 : decide (48 ≤ (s[m].toNat : Int)) = false := decide_eq_false h1
        go_wp2_with fail
        refine wp_region_ext (by kernel_rfl) (by kernel_rfl) ?_
        repeat (go_big_quiet_step (fail))
        refine wpQuiet_nil ?_
        rintro _ ⟨u, rfl⟩
        go_wp2_with fail
        go_ret
        obtain rfl := HJ.out; have e : j = dgs (s.data.toList.drop k) := (by have := HD.out; have := HN.out; omega); rw [← e]; exact ⟨rfl, HR.out.then_ (below_ext wr u), HG.out.then_ (below_ext wr u), HK.out.then_ (below_ext wr u)⟩
    · have hd := dgs_end s m (by omega)
      have HD := Lib.hid hd
      clear hd
      go_wp2_with fail
      refine wp_region_ext (by kernel_rfl) (by kernel_rfl) ?_
      repeat (go_big_quiet_step (fail))
      refine wpQuiet_nil ?_
      rintro _ ⟨u, rfl⟩
      go_wp2_with fail
      go_ret
      obtain rfl := HJ.out; have e : j = dgs (s.data.toList.drop k) := (by have := HD.out; have := HN.out; omega); rw [← e]; exact ⟨rfl, HR.out.then_ (below_ext wr u), HG.out.then_ (below_ext wr u), HK.out.then_ (below_ext wr u)⟩

set_option maxHeartbeats 4000000 in
theorem digits_part (s : ByteArray) (r k g h : Nat) (p q : Int) (w : World) (hs0 : s.size ≤ maxLen) (hk : k ≤ s.size) (hrg : r ≠ g) (hrh : r ≠ h) (hgh : g ≠ h) (hp0 : 0 ≤ p) (hq0 : 0 ≤ q) (hq1 : q ≤ 100) (hpq : p + 10 * q ≤ 1000) (hB : Rd w r s k) (hG : Blk w g 3 #[.int .i64 p]) (hH : Blk w h 3 #[.int .i64 q]) :
    Calls Try.prog 75 #[.pointer (some ⟨r, 0, none⟩), .func (.func 77) #[] #[.pointer (some ⟨g, 0, none⟩), .pointer (some ⟨h, 0, none⟩)]] w fun e w' =>
      e = .returned (.int .i64 (dgs (s.data.toList.drop k))) ∧ Rd w' r s (k + dgs (s.data.toList.drop k)) ∧ (Blk w' g 3 #[.int .i64 (partF ((s.data.toList.drop k).take (dgs (s.data.toList.drop k))) (p, q)).1] ∧ Blk w' h 3 #[.int .i64 (partF ((s.data.toList.drop k).take (dgs (s.data.toList.drop k))) (p, q)).2]) ∧ Keeps (fun i => i = r ∨ i = g ∨ i = h) w w' := by
  have hs := hs0
  unfold maxLen at hs
  have HB := Lib.hid hB
  have HG0 := Lib.hid (⟨by simpa [partF] using hG, by simpa [partF] using hH⟩ : (Blk w g 3 #[.int .i64 (partF ((s.data.toList.drop k).take 0) (p, q)).1] ∧ Blk w h 3 #[.int .i64 (partF ((s.data.toList.drop k).take 0) (p, q)).2]))
  clear hB hG hH
  go_enter Try.func75, Try.ntmps75
  go_wp2_with fail
  go_loopw [5] (fun n wr => ∃ j m : Nat, n = .int .i64 j ∧ m = k + j ∧ m ≤ s.size ∧ j + dgs (s.data.toList.drop m) = dgs (s.data.toList.drop k) ∧ Rd wr r s m ∧ (Blk wr g 3 #[.int .i64 (partF ((s.data.toList.drop k).take j) (p, q)).1] ∧ Blk wr h 3 #[.int .i64 (partF ((s.data.toList.drop k).take j) (p, q)).2]) ∧ Keeps (fun i => i = r ∨ i = g ∨ i = h) w wr) (fun n _ => s.size - k - (intOf n).toNat)
  case atStart => exact ⟨0, k, rfl, by omega, hk, by simp, HB.out, HG0.out, Keeps.refl _ _⟩
  case round =>
    obtain ⟨j, m, rfl, hjm, hj, hn, hr, hg, hkp⟩ := hrel
    have c0 : wr.cell? ⟨r, 0, none⟩ = some (.string s) := hr.cell 0
    have c1 : wr.cell? ⟨r, 1, none⟩ = some (.int .i64 (m : Int)) := hr.cell 1
    have fz := hr.frozen
    have hrl := hr.lt
    have HR := Lib.hid hr
    have HG := Lib.hid hg
    have HK := Lib.hid hkp
    have HN := Lib.hid hn
    have hbd := partF_bd ((s.data.toList.drop k).take j) p q (fun c hc => dgs_take (s.data.toList.drop k) c (by
      have e : (s.data.toList.drop k).take j = ((s.data.toList.drop k).take (dgs (s.data.toList.drop k))).take j := by rw [List.take_take, Nat.min_eq_left (by omega)]
      rw [e] at hc; exact List.mem_of_mem_take hc)) hp0 hq0 hq1 hpq
    have HJ := Lib.hid hjm
    have hjm2 : j ≤ m := by omega
    clear hr hg hkp hn hjm
    by_cases hlt : m < s.size
    · have hd := dgs_at s m hlt
      have h8 : s[m].toNat < 256 := s[m].toNat_lt
      by_cases h1 : 48 ≤ (s[m].toNat : Int)
      · by_cases h2 : (s[m].toNat : Int) ≤ 57
        · rw [if_pos ((isD_iff _).2 ⟨by omega, by omega⟩)] at hd
          have HD := Lib.hid hd
          clear hd
          have d1 : decide (48 ≤ (s[m].toNat : Int)) = true := decide_eq_true h1
          have d2 : decide ((s[m].toNat : Int) ≤ 57) = true := decide_eq_true h2
          have a1 : IntKind.u8.wrap ((s[m].toNat : Int) - 48) = (s[m].toNat : Int) - 48 := by unfold IntKind.wrap; simp [IntKind.bits, IntKind.signed]; omega
          have a2 : IntKind.i64.wrap ((s[m].toNat : Int) - 48) = (s[m].toNat : Int) - 48 := IntWalk.i64_in _ (by omega)
          go_wp2_with fail
          refine wp_region_ext (by kernel_rfl) (by kernel_rfl) ?_
          repeat (go_big_quiet_step (fail))
          refine wpQuiet_nil ?_
          rintro _ ⟨u, rfl⟩
          go_wp2_with fail
          refine wp_region_ext_tail2 12 (by kernel_rfl) (by kernel_rfl) ?_
          simp only [List.take_succ_cons, List.take_zero, List.drop_succ_cons, List.drop_zero]
          repeat (go_big_quiet_step (fail))
          refine wpQuiet_nil ?_
          rintro _ ⟨u2, rfl⟩
          go_wp2_with fail
          refine (part_any ((s[m].toNat : Int) - 48) _ _ g h _ hgh (by omega) (by omega) hbd.1 (by omega) hbd.2.2.1 hbd.2.2.2 (HG.out.1.then_ (below_ext wr u2)) (HG.out.2.then_ (below_ext wr u2))).mono ?_
          rintro e w2 ⟨rfl, hg2, hh2, hk2⟩
          have e1 : (s.data.toList.drop k).take j ++ [s[m]] = (s.data.toList.drop k).take (j + 1) := by obtain rfl := HJ.out; exact (take_drop_snoc s k j hlt).symm
          have e2 := partF_snoc ((s.data.toList.drop k).take j) s[m] (p, q)
          rw [e1] at e2
          have hg2 : Blk w2 g 3 #[.int .i64 (partF ((s.data.toList.drop k).take (j + 1)) (p, q)).1] := by rw [e2]; exact hg2
          have hh2 : Blk w2 h 3 #[.int .i64 (partF ((s.data.toList.drop k).take (j + 1)) (p, q)).2] := by rw [e2]; exact hh2
          have hr2 : Rd w2 r s m := Blk.of_kept (HR.out.then_ (below_ext wr u2)) (hk2.block r (HR.out.then_ (below_ext wr u2)).lt (by simp [hrg, hrh]))
          have q1 : w2.cell? ⟨r, 1, none⟩ = some (.int .i64 (m : Int)) := hr2.cell 1
          have fz2 := hr2.frozen
          have hrl2 := hr2.lt
          have HG2 := Lib.hid hg2
          have HH2 := Lib.hid hh2
          have HR2 := Lib.hid hr2
          have HK2 := Lib.hid hk2
          clear hg2 hh2 hr2 hk2 e1 e2
          go_wp2_with fail
          go_roundw
          case rel =>
            refine ⟨j + 1, m + 1, by go_num, (by have := HJ.out; omega), by omega, (by have := HD.out; have := HN.out; omega), ?_, ⟨HG2.out.far (p := ⟨r, 1, none⟩) (Ne.symm hrg) _, HH2.out.far (p := ⟨r, 1, none⟩) (Ne.symm hrh) _⟩, ?_⟩
            · exact HR2.out.put 1 _
            · exact Keeps.put (X := fun i => i = r ∨ i = g ∨ i = h) ((HK.out.then_ (below_ext wr u2)).trans (HK2.out.mono fun i hi => .inr hi)) (.inl (.inl rfl)) _
          case measure => simp [intOf]; have := HJ.out; omega
        · rw [if_neg (by rw [isD_iff]; omega)] at hd
          have HD := Lib.hid hd
          clear hd
          have d1 : decide (48 ≤ (s[m].toNat : Int)) = true := decide_eq_true h1
          have d2 : decide ((s[m].toNat : Int) ≤ 57) = false := decide_eq_false h2
          go_wp2_with fail
          refine wp_region_ext (by kernel_rfl) (by kernel_rfl) ?_
          repeat (go_big_quiet_step (fail))
          refine wpQuiet_nil ?_
          rintro _ ⟨u, rfl⟩
          go_wp2_with fail
          go_ret
          obtain rfl := HJ.out; have e : j = dgs (s.data.toList.drop k) := (by have := HD.out; have := HN.out; omega); rw [← e]; exact ⟨rfl, HR.out.then_ (below_ext wr u), ⟨HG.out.1.then_ (below_ext wr u), HG.out.2.then_ (below_ext wr u)⟩, HK.out.then_ (below_ext wr u)⟩
      · rw [if_neg (by rw [isD_iff]; omega)] at hd
        have HD := Lib.hid hd
        clear hd
        have d1 : decide (48 ≤ (s[m].toNat : Int)) = false := decide_eq_false h1
        go_wp2_with fail
        refine wp_region_ext (by kernel_rfl) (by kernel_rfl) ?_
        repeat (go_big_quiet_step (fail))
        refine wpQuiet_nil ?_
        rintro _ ⟨u, rfl⟩
        go_wp2_with fail
        go_ret
        obtain rfl := HJ.out; have e : j = dgs (s.data.toList.drop k) := (by have := HD.out; have := HN.out; omega); rw [← e]; exact ⟨rfl, HR.out.then_ (below_ext wr u), ⟨HG.out.1.then_ (below_ext wr u), HG.out.2.then_ (below_ext wr u)⟩, HK.out.then_ (below_ext wr u)⟩
    · have hd := dgs_end s m (by omega)
      have HD := Lib.hid hd
      clear hd
      go_wp2_with fail
      refine wp_region_ext (by kernel_rfl) (by kernel_rfl) ?_
      repeat (go_big_quiet_step (fail))
      refine wpQuiet_nil ?_
      rintro _ ⟨u, rfl⟩
      go_wp2_with fail
      go_ret
      obtain rfl := HJ.out; have e : j = dgs (s.data.toList.drop k) := (by have := HD.out; have := HN.out; omega); rw [← e]; exact ⟨rfl, HR.out.then_ (below_ext wr u), ⟨HG.out.1.then_ (below_ext wr u), HG.out.2.then_ (below_ext wr u)⟩, HK.out.then_ (below_ext wr u)⟩

end Go.Proofs.Ytmicgfpiknibhaa
