/- The statement that all spaces are together what is free: plain, and the walk. -/
import Derived.Test.YtohnhgchoppgmaaAlignLaws
import Derived.Test.YtohnhgchoppgmaaDealPlain
namespace Go.Proofs.Ytohnhgchoppgmaa
open Go.Shelf Go.RowKit Go.Lib Go.Sort
set_option linter.unusedSimpArgs false
set_option linter.unusedVariables false

theorem sm_single (a : Nat) (x : Int) : ∀ m, Sh.sm (fun i => if i = a then x else 0) m = if a < m then x else 0
  | 0 => by rw [if_neg (by omega)]; rfl
  | m + 1 => by
    show Sh.sm (fun i => if i = a then x else 0) m + (if m = a then x else 0) = _
    rw [sm_single a x m]
    by_cases h1 : m = a
    · rw [if_neg (by omega), if_pos h1, if_pos (by omega)]; omega
    · rw [if_neg h1]
      by_cases h2 : a < m
      · rw [if_pos h2, if_pos (by omega)]; omega
      · rw [if_neg h2, if_neg (by omega)]; omega
theorem wsum_pos (n : Nat) (f : Nat → Int) (i : Nat) (hi : i < n) (h : 0 < wt (f i)) : ¬ Sh.sm (fun i => wt (f i)) n = 0 := by
  have := Sh.sm_at (f := fun i => wt (f i)) (n := n) (fun j _ => (wt_bd (f j)).1) hi
  omega
theorem deal_all (f : Int) (h1 : -1073741824 ≤ f) (h2 : f ≤ 1073741824) (n : Nat) (g : Nat → Int) (hn : n ≤ 1048576) (i : Nat) (hi : i < n) (h : 0 < wt (g i)) : Sh.sm (deal f n g) n = f := by
  rw [deal_sum f n g hn, if_neg (wsum_pos n g i hi h), hold_id h1 h2]

theorem spaces_sum (f : Int) (h1 : -1073741824 ≤ f) (h2 : f ≤ 1073741824) (n : Nat) (hn : n ≤ 1024) (way : Int) : Sh.sm (spaces f n way) (n + 1) = f := by
  by_cases h0 : n = 0
  · subst h0
    show 0 + spaces f 0 way 0 = f
    unfold spaces
    rw [if_pos rfl]; omega
  · by_cases w1 : way = 1
    · have e : Sh.sm (spaces f n way) (n + 1) = Sh.sm (fun i => if i = 0 then f else 0) (n + 1) := Sh.sm_congr fun i _ => by unfold spaces; rw [if_neg h0, if_pos w1]
      rw [e, sm_single, if_pos (by omega)]
    · by_cases w2 : way = 2
      · have e : Sh.sm (spaces f n way) (n + 1) = Sh.sm (fun i => (if i = n then f - f / 2 else 0) + (if i = 0 then f / 2 else 0)) (n + 1) := Sh.sm_congr fun i _ => by
          unfold spaces; rw [if_neg h0, if_neg w1, if_pos w2]
          by_cases e1 : i = n
          · rw [if_pos e1, if_pos e1, if_neg (by omega)]; omega
          · rw [if_neg e1, if_neg e1]
            by_cases e2 : i = 0
            · rw [if_pos e2]; omega
            · rw [if_neg e2]; rfl
        rw [e, Sh.sm_add, sm_single, sm_single, if_pos (by omega), if_pos (by omega)]; omega
      · by_cases c3 : 0 ≤ f ∧ way = 3 ∧ 1 < n
        · have e : Sh.sm (spaces f n way) (n + 1) = Sh.sm (deal f (n + 1) (wEnd n 0 1)) (n + 1) := Sh.sm_congr fun i _ => by unfold spaces; rw [if_neg h0, if_neg w1, if_neg w2, if_pos c3]
          rw [e]
          exact deal_all f h1 h2 _ _ (by omega) 1 (by omega) (by rw [show wEnd n 0 1 1 = 1 from if_neg (by omega)]; decide)
        · by_cases c4 : 0 ≤ f ∧ way = 4
          · have e : Sh.sm (spaces f n way) (n + 1) = Sh.sm (deal f (n + 1) (wEnd n 1 2)) (n + 1) := Sh.sm_congr fun i _ => by unfold spaces; rw [if_neg h0, if_neg w1, if_neg w2, if_neg c3, if_pos c4]
            rw [e]
            exact deal_all f h1 h2 _ _ (by omega) 0 (by omega) (by rw [show wEnd n 1 2 0 = 1 from if_pos (.inl rfl)]; decide)
          · by_cases c5 : 0 ≤ f ∧ way = 5
            · have e : Sh.sm (spaces f n way) (n + 1) = Sh.sm (deal f (n + 1) (fun _ => 1)) (n + 1) := Sh.sm_congr fun i _ => by unfold spaces; rw [if_neg h0, if_neg w1, if_neg w2, if_neg c3, if_neg c4, if_pos c5]
              rw [e]
              exact deal_all f h1 h2 _ _ (by omega) 0 (by omega) (by decide)
            · have e : Sh.sm (spaces f n way) (n + 1) = Sh.sm (fun i => if i = n then f else 0) (n + 1) := Sh.sm_congr fun i _ => by unfold spaces; rw [if_neg h0, if_neg w1, if_neg w2, if_neg c3, if_neg c4, if_neg c5]
              rw [e, sm_single, if_pos (by omega)]

theorem deal_nonneg (f : Int) (h0 : 0 ≤ f) (n : Nat) (g : Nat → Int) (hn : n ≤ 1048576) (i : Nat) (hi : i < n) : 0 ≤ deal f n g i := by
  have hb := hold_bd f
  have hh : 0 ≤ hold f := (hold_nonneg f).2 h0
  unfold deal
  split
  · omega
  · rename_i hs
    exact (dealt_bd (deals_of (hold f) n g hh hb.2 hn hs) hi).1

/-- A number between two ends, and not below 0 where f is not. -/
def Fine (f x : Int) : Prop := -1073741825 ≤ x ∧ x ≤ 1073741825 ∧ (0 ≤ f → 0 ≤ x)
theorem fine_deal (f : Int) (n : Nat) (g : Nat → Int) (hn : n ≤ 1048576) (i : Nat) (hi : i < n) : Fine f (deal f n g i) :=
  ⟨(deal_bd f n g hn hi).1, (deal_bd f n g hn hi).2, fun h => deal_nonneg f h n g hn i hi⟩
theorem fine_self (f : Int) (h1 : -1073741824 ≤ f) (h2 : f ≤ 1073741824) : Fine f f := ⟨by omega, by omega, id⟩
theorem fine_nought (f : Int) : Fine f 0 := ⟨by decide, by decide, fun _ => Int.le_refl _⟩
theorem spaces_fine (f : Int) (h1 : -1073741824 ≤ f) (h2 : f ≤ 1073741824) (n : Nat) (hn : n ≤ 1024) (way : Int) (i : Nat) (hi : i < n + 1) : Fine f (spaces f n way i) := by
  unfold spaces
  (repeat' split) <;> first
    | exact fine_self f h1 h2
    | exact fine_nought f
    | exact fine_deal f _ _ (by omega) i hi
    | exact ⟨by omega, by omega, by omega⟩
theorem linesS_fine (f : Int) (h1 : -1073741824 ≤ f) (h2 : f ≤ 1073741824) (n : Nat) (hn : n ≤ 1024) (way : Int) (i : Nat) (hi : i < n + 1) : Fine f (linesS f n way i) := by
  unfold linesS
  split
  · exact spaces_fine f h1 h2 n hn _ i hi
  · split
    · exact spaces_fine f h1 h2 n hn _ i hi
    · exact fine_nought f
theorem linesM_fine (f : Int) (n : Nat) (hn : n ≤ 1024) (way : Int) (i : Nat) (hi : i < n) : Fine 0 (linesM f n way i) := by
  unfold linesM
  split
  · exact fine_nought 0
  · rename_i h
    have := fine_deal f n (fun _ => 1) (by omega) i hi
    exact ⟨this.1, this.2.1, fun _ => this.2.2 (by omega)⟩
theorem lines_sum (f : Int) (h1 : -1073741824 ≤ f) (h2 : f ≤ 1073741824) (n : Nat) (hn : n ≤ 1024) (way : Int) : Sh.sm (linesS f n way) (n + 1) + Sh.sm (linesM f n way) n = f := by
  unfold linesS linesM
  by_cases hw : way = 0
  · rw [if_neg (by simp [hw])]
    by_cases hc : f ≤ 0 ∨ n = 0
    · rw [if_pos hc, if_pos (.inr hc), Sh.sm_zero, spaces_sum f h1 h2 n hn]; omega
    · rw [if_neg hc, if_neg (by simp [hw]; omega), Sh.sm_zero]
      have := deal_all f h1 h2 n (fun _ => 1) (by omega) 0 (by omega) (by decide)
      omega
  · rw [if_pos hw, if_pos (.inl hw), Sh.sm_zero, spaces_sum f h1 h2 n hn]; omega

theorem sm_fine {f : Int} {g : Nat → Int} {n : Nat} (h : ∀ i, i < n → Fine f (g i)) (k : Nat) (hk : k ≤ n) (hn : n ≤ 1025) : -1100585370625 ≤ Sh.sm g k ∧ Sh.sm g k ≤ 1100585370625 := by
  have := sm_bd g 1073741825 k (fun i hi => ⟨(h i (by omega)).1, (h i (by omega)).2.1⟩)
  have e : (1073741825 : Int) * k ≤ 1073741825 * 1025 := Int.mul_le_mul_of_nonneg_left (by omega) (by decide)
  have e2 : (-1073741825 : Int) * k = -(1073741825 * k) := Int.neg_mul _ _
  omega

set_option maxHeartbeats 4000000 in
theorem AlignWhole_walk (free n way : Int) (w : World) : Calls Try.prog 6 #[.int .i64 free, .int .i64 n, .int .i64 way] w fun e w' => e = .returned (.bool true) ∧ Below w.heap.size w w' := by
  have hk := someN_bd n
  have hmk := manyN_id (someN n) (by omega)
  have hb := hold_bd free
  have HL : Hid (∀ w', Calls Try.prog 17 #[.int .i64 free, .int .i64 (someN n), .int .i64 way] w' (TwoOut w' (someN n) (someN n + 1) (linesM (hold free) (someN n) way) (linesS (hold free) (someN n) way))) := Lib.hid (fun w' => by
    have h := Lines_any free (someN n) way w'
    rw [hmk] at h
    exact h)
  have HSP : Hid (∀ w', Calls Try.prog 10 #[.int .i64 free, .int .i64 (someN n), .int .i64 way] w' (RowOut w' (someN n + 1) (spaces (hold free) (someN n) way))) := Lib.hid (fun w' => by
    have h := Spaces_any free (someN n) way w'
    rw [hmk] at h
    exact h)
  have HM := Lib.hid (fun w' => some_any n w')
  generalize someN n = k at *
  have HF1 := Lib.hid (fun i hi => spaces_fine (hold free) hb.1 hb.2 k (by omega) way i hi)
  have HF2 := Lib.hid (fun i hi => linesS_fine (hold free) hb.1 hb.2 k (by omega) way i hi)
  have HF3 := Lib.hid (fun i hi => linesM_fine (hold free) k (by omega) way i hi)
  have HS1 := Lib.hid (spaces_sum (hold free) hb.1 hb.2 k (by omega) way)
  have HS2 := Lib.hid (lines_sum (hold free) hb.1 hb.2 k (by omega) way)
  have HZ : Hid (0 ≤ free → 0 ≤ hold free) := Lib.hid (fun h => (hold_nonneg free).2 h)
  generalize spaces (hold free) k way = A at *
  generalize linesS (hold free) k way = B at *
  generalize linesM (hold free) k way = C at *
  obtain ⟨m, hm⟩ : ∃ m, m = k + 1 := ⟨_, rfl⟩
  rw [← hm] at HL HSP HF1 HF2 HS1 HS2
  have qm : (k : Int) + 1 = (m : Int) := by omega
  have hmb : m ≤ 64 := by omega
  have HQ := Lib.hid qm
  clear hmk hm qm
  go_enter Try.func6, Try.ntmps6
  go_wp2_with fail
  refine (HM.out _).mono ?_; rintro e w' ⟨rfl, rfl⟩
  go_wp2_with fail
  refine (HSP.out _).mono ?_
  rintro e w1 ⟨o, rfl, ho, h1, hb1⟩
  have HR1 := Lib.hid h1
  have HB1 := Lib.hid hb1
  clear h1 hb1 ho HSP
  go_wp2_with fail
  refine (HL.out _).mono ?_
  rintro e w2 ⟨o1, o2, rfl, h2, h3, hb2⟩
  have HR := Lib.hid (And.intro (HR1.out.of_block (hb2.block _ HR1.out.lt)) (And.intro h2 h3))
  have HB2 := Lib.hid (below_then HB1.out hb2)
  clear h2 h3 hb2 HR1 HB1 HL
  go_wp2_with fail
  go_loop [11, 13] (fun v11 v13 => ∃ i : Nat, i ≤ m ∧ v13 = .int .i64 i ∧ v11 = .int .i64 (Sh.sm A i)) (fun _ v13 => m - (intOf v13).toNat)
  case atStart => exact ⟨0, Nat.zero_le _, rfl, rfl⟩
  case round =>
    obtain ⟨i, hi, rfl, rfl⟩ := hrel
    by_cases hlt : i < m
    · have c1 := HR.out.1.cell hlt
      obtain ⟨f1, f2, f3⟩ := HF1.out i hlt
      have hs := sm_fine HF1.out i (by omega) (by omega)
      have iz : (i : Int) < (m : Int) := by omega
      have HE : Hid (Sh.sm A (i + 1) = Sh.sm A i + A i) := Lib.hid rfl
      generalize Sh.sm A i = a at *
      generalize A i = x at *
      by_cases hf : 0 ≤ free
      · have hx : 0 ≤ x := f3 (HZ.out hf)
        clear f3
        go_wp2_with fail
        go_round
        case rel => exact ⟨i + 1, hlt, by go_num, by rw [HE.out]⟩
        case measure => simp [intOf]; omega
      · clear f3
        go_wp2_with fail
        go_round
        case rel => exact ⟨i + 1, hlt, by go_num, by rw [HE.out]⟩
        case measure => simp [intOf]; omega
    · obtain rfl : i = m := by omega
      rw [HS1.out]
      go_wp2_with fail
      go_loop [12, 14] (fun v12 v14 => ∃ j : Nat, j ≤ i ∧ v14 = .int .i64 j ∧ v12 = .int .i64 (Sh.sm B j)) (fun _ v14 => i - (intOf v14).toNat)
      case atStart => exact ⟨0, Nat.zero_le _, rfl, rfl⟩
      case round =>
        obtain ⟨j, hj, rfl, rfl⟩ := hrel
        by_cases hlt2 : j < i
        · have c1 := HR.out.2.2.cell hlt2
          obtain ⟨f1, f2, f3⟩ := HF2.out j hlt2
          have hs := sm_fine HF2.out j (by omega) (by omega)
          have iz : (j : Int) < (i : Int) := by omega
          have HE : Hid (Sh.sm B (j + 1) = Sh.sm B j + B j) := Lib.hid rfl
          generalize Sh.sm B j = a at *
          generalize B j = x at *
          by_cases hf : 0 ≤ free
          · have hx : 0 ≤ x := f3 (HZ.out hf)
            clear f3
            go_wp2_with fail
            go_round
            case rel => exact ⟨j + 1, hlt2, by go_num, by rw [HE.out]⟩
            case measure => simp [intOf]; omega
          · clear f3
            go_wp2_with fail
            go_round
            case rel => exact ⟨j + 1, hlt2, by go_num, by rw [HE.out]⟩
            case measure => simp [intOf]; omega
        · obtain rfl : j = i := by omega
          have hsB := sm_fine HF2.out j (by omega) (by omega)
          go_wp2_with fail
          go_loop [12, 15] (fun v12 v15 => ∃ x : Nat, x ≤ k ∧ v15 = .int .i64 x ∧ v12 = .int .i64 (Sh.sm B j + Sh.sm C x)) (fun _ v15 => k - (intOf v15).toNat)
          case atStart => exact ⟨0, Nat.zero_le _, rfl, by show Value.int .i64 _ = .int .i64 (Sh.sm B j + 0); rw [Int.add_zero]⟩
          case round =>
            obtain ⟨x, hx, rfl, rfl⟩ := hrel
            by_cases hlt3 : x < k
            · have c1 := HR.out.2.1.cell hlt3
              obtain ⟨f1, f2, f3⟩ := HF3.out x hlt3
              have hs := sm_fine HF3.out x (by omega) (by omega)
              have iz : (x : Int) < (k : Int) := by omega
              have f4 := f3 (Int.le_refl _)
              have HE : Hid (Sh.sm B j + Sh.sm C (x + 1) = Sh.sm B j + Sh.sm C x + C x) := Lib.hid (by show Sh.sm B j + (Sh.sm C x + C x) = _; omega)
              generalize Sh.sm C x = a at *
              generalize Sh.sm B j = b at *
              generalize C x = y at *
              clear f3
              go_wp2_with fail
              go_round
              case rel => exact ⟨x + 1, hlt3, by go_num, by rw [HE.out]⟩
              case measure => simp [intOf]; omega
            · obtain rfl : x = k := by omega
              rw [HS2.out]
              have qm := HQ.out
              clear HR
              go_wp2_with fail
              refine (RHold_any _ _).mono ?_; rintro e w' ⟨rfl, rfl⟩
              go_wp2_with fail
              refine (RHold_any _ _).mono ?_; rintro e w' ⟨rfl, rfl⟩
              go_wp2_with fail
              refine (known_any _).mono ?_
              rintro e w7 ⟨rfl, hb7⟩
              have HB7 := Lib.hid (below_then HB2.out hb7)
              clear hb7
              go_wp2_with fail
              go_ret
              exact ⟨rfl, HB7.out⟩

end Go.Proofs.Ytohnhgchoppgmaa
