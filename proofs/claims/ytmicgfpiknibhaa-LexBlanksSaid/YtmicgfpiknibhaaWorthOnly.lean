/- The reference's Worth: a walk. -/
import Derived.Test.YtmicgfpiknibhaaTextRef
namespace Go.Proofs.Ytmicgfpiknibhaa
open Go.RowKit
set_option linter.unusedSimpArgs false
set_option linter.unusedVariables false

theorem wtail_step (v l : Int) (h : 0 < l) (h3 : l ≤ 3) : wtail v l = wtail (v * 10) (l - 1) := by
  unfold wtail
  rcases (by omega : l = 1 ∨ l = 2 ∨ l = 3) with rfl | rfl | rfl <;> simp <;> omega
theorem wtail_ge (v l : Int) (hv : 0 ≤ v) : v ≤ wtail v l := by unfold wtail; split <;> (try split) <;> (try split) <;> omega
theorem wtail_le (v l : Int) (hv : 0 ≤ v) (h2 : v ≤ 1125899906842624) : wtail v l ≤ 1125899906842624000 := by unfold wtail; split <;> (try split) <;> (try split) <;> omega

/-- The sign of a text. -/
def minus (l : List UInt8) : Bool := decide (l.head?.map (·.toNat) = some 45)
theorem minus_at (s : ByteArray) (h : 0 < s.size) : minus s.data.toList = decide (s[0].toNat = 45) := by
  have e := drop_at s 0 h
  rw [List.drop_zero] at e
  unfold minus; rw [e]; simp

theorem worth_eq (l : List UInt8) : worth l = if minus l = true then hold (-(wtail (wgather l).1 (wgather l).2)) else hold (wtail (wgather l).1 (wgather l).2) := by
  unfold worth minus
  simp only [decide_eq_true_eq]

set_option maxHeartbeats 4000000 in
theorem RWorth_any (s : ByteArray) (h0 : 0 < s.size) (hs0 : s.size ≤ maxLen) (w : World) :
    Calls Try.prog 65 #[.string s] w fun e w' => e = .returned (.int .i64 (worth s.data.toList)) ∧ w = w' := by
  have hs := hs0
  unfold maxLen at hs
  have HW := Lib.hid (worth_eq s.data.toList)
  have HG := Lib.hid (wgather_bd s.data.toList)
  have HMI := Lib.hid (minus_at s h0)
  go_enter Try.func65, Try.ntmps65
  go_wp2_with fail
  go_loop [3, 4, 5] (fun v l i => ∃ k : Nat, k ≤ s.size ∧ i = .int .i64 k ∧ v = .int .i64 (wgather (s.data.toList.take k)).1 ∧ l = .int .i64 (wgather (s.data.toList.take k)).2) (fun _ _ i => s.size - (intOf i).toNat)
  case atStart => exact ⟨0, by omega, rfl, rfl, rfl⟩
  case round =>
    obtain ⟨k, hk, rfl, rfl, rfl⟩ := hrel
    have hb := wgather_bd (s.data.toList.take k)
    by_cases hlt : k < s.size
    · have hst : wgather (s.data.toList.take (k + 1)) = wstep (wgather (s.data.toList.take k)) s[k] := by rw [take_snoc s k hlt, wgather_snoc]
      have h8 : s[k].toNat < 256 := s[k].toNat_lt
      generalize hq : wgather (s.data.toList.take k) = q at *
      clear hq
      by_cases h46 : s[k].toNat = 46
      · rw [wstep_dot q _ h46] at hst
        have HST := Lib.hid hst
        clear hst
        go_wp2_with fail
        go_round
        case rel => exact ⟨k + 1, by omega, by go_num, by rw [HST.out], by rw [HST.out]⟩
        case measure => simp [intOf]; omega
      · have h46' : ((s[k].toNat : Int) == 46) = false := by simp; omega
        by_cases hd : isD s[k] = true
        · have hdd := (isD_iff _).1 hd
          have g1 : 48 ≤ (s[k].toNat : Int) := by omega
          have g2 : (s[k].toNat : Int) ≤ 57 := by omega
          by_cases hl : q.2 = 0
          · rw [wstep_full q _ hd hl] at hst
            have HST := Lib.hid hst
            have hl' : (q.2 == 0) = true := by simp [hl]
            have HL := Lib.hid hl
            clear hst h46 hd hdd hl
            go_wp2_with fail
            go_round
            case rel => exact ⟨k + 1, by omega, by go_num, by rw [HST.out], by rw [HST.out]⟩
            case measure => simp [intOf]; omega
          · rw [wstep_add q _ hd hl] at hst
            have HST := Lib.hid hst
            have hl' : (q.2 == 0) = false := by simp [hl]
            clear hst h46 hd hdd
            go_wp2_with fail
            all_goals
              go_round
              case rel => exact ⟨k + 1, by omega, by go_num, by rw [HST.out]; simp only; split <;> first | rfl | omega, by rw [HST.out]; simp only; split <;> first | rfl | omega⟩
              case measure => simp [intOf]; omega
        · have hd' : isD s[k] = false := by simpa using hd
          rw [wstep_other q _ h46 hd'] at hst
          have HST := Lib.hid hst
          clear hst
          have hnd : ¬ (48 ≤ s[k].toNat ∧ s[k].toNat ≤ 57) := by rw [← isD_iff]; exact hd
          by_cases g1 : 48 ≤ (s[k].toNat : Int)
          · have g2 : 57 < (s[k].toNat : Int) := by omega
            clear h46 hd hd' hnd
            go_wp2_with fail
            go_round
            case rel => exact ⟨k + 1, by omega, by go_num, by rw [HST.out], by rw [HST.out]⟩
            case measure => simp [intOf]; omega
          · have g2 : (s[k].toNat : Int) < 48 := by omega
            clear h46 hd hd' hnd g1
            go_wp2_with fail
            go_round
            case rel => exact ⟨k + 1, by omega, by go_num, by rw [HST.out], by rw [HST.out]⟩
            case measure => simp [intOf]; omega
    · have e : s.data.toList.take k = s.data.toList := List.take_of_length_le (by rw [len_data]; omega)
      rw [e] at hb ⊢
      generalize wgather s.data.toList = q at *
      by_cases hl : q.2 < 0
      · have e3 : q.2 = -1 := by omega
        have HWT : Hid (wtail q.1 q.2 = wtail q.1 3) := Lib.hid (by rw [e3]; rfl)
        clear e3
        go_wp2_with fail
        have HQ := Lib.hid hb
        clear hb hl
        go_loop [3, 4] (fun v l => ∃ a b : Int, v = .int .i64 a ∧ l = .int .i64 b ∧ 0 ≤ a ∧ 0 ≤ b ∧ b ≤ 3 ∧ wtail a b = wtail q.1 q.2) (fun _ l => (intOf l).toNat)
        case atStart => have := HQ.out; exact ⟨q.1, 3, rfl, rfl, by omega, by omega, by omega, HWT.out.symm⟩
        case round =>
          obtain ⟨a, b, rfl, rfl, ha, hb0, hb3, hab⟩ := hrel
          have hge := wtail_ge a b ha
          have htop : wtail q.1 q.2 ≤ 1125899906842624000 := wtail_le _ _ HQ.out.1 HQ.out.2.1
          by_cases hz : 0 < b
          · have hst := wtail_step a b hz hb3
            have hge2 := wtail_ge (a * 10) (b - 1) (by omega)
            have hle : a * 10 ≤ 1125899906842624000 := by omega
            have HAB := Lib.hid hab
            have HST := Lib.hid hst
            clear hab hst hge hge2 htop
            go_wp2_with fail
            go_round
            case rel => exact ⟨a * 10, b - 1, rfl, rfl, by omega, by omega, by omega, by rw [← HST.out, HAB.out]⟩
            case measure => simp [intOf]; omega
          · have hz0 : b = 0 := by omega
            have ea : a = wtail q.1 q.2 := by rw [← hab, hz0]; rfl
            have hb2 : a ≤ 1125899906842624000 := by omega
            have HEA := Lib.hid ea
            clear hab hge htop ea hz0
            by_cases hm : s[0].toNat = 45
            · have HM : Hid (minus s.data.toList = true) := Lib.hid (by rw [HMI.out]; simp [hm])
              go_wp2_with fail
              refine (RHold_any _ _).mono ?_; rintro e w' ⟨rfl, rfl⟩
              go_wp2_with fail
              go_ret
              exact ⟨ret_int (by rw [HW.out, HM.out, if_pos rfl, HEA.out]), rfl⟩
            · have HM : Hid (minus s.data.toList = false) := Lib.hid (by rw [HMI.out]; simp [hm])
              have hm' : ((s[0].toNat : Int) == 45) = false := by simp; omega
              clear hm
              go_wp2_with fail
              refine (RHold_any _ _).mono ?_; rintro e w' ⟨rfl, rfl⟩
              go_wp2_with fail
              go_ret
              exact ⟨ret_int (by rw [HW.out, HM.out, if_neg (by simp), HEA.out]), rfl⟩
      · go_wp2_with fail
        have HQ := Lib.hid hb
        clear hb
        go_loop [3, 4] (fun v l => ∃ a b : Int, v = .int .i64 a ∧ l = .int .i64 b ∧ 0 ≤ a ∧ 0 ≤ b ∧ b ≤ 3 ∧ wtail a b = wtail q.1 q.2) (fun _ l => (intOf l).toNat)
        case atStart => have := HQ.out; exact ⟨q.1, q.2, rfl, rfl, by omega, by omega, by omega, rfl⟩
        case round =>
          obtain ⟨a, b, rfl, rfl, ha, hb0, hb3, hab⟩ := hrel
          have hge := wtail_ge a b ha
          have htop : wtail q.1 q.2 ≤ 1125899906842624000 := wtail_le _ _ HQ.out.1 HQ.out.2.1
          by_cases hz : 0 < b
          · have hst := wtail_step a b hz hb3
            have hge2 := wtail_ge (a * 10) (b - 1) (by omega)
            have hle : a * 10 ≤ 1125899906842624000 := by omega
            have HAB := Lib.hid hab
            have HST := Lib.hid hst
            clear hab hst hge hge2 htop
            go_wp2_with fail
            go_round
            case rel => exact ⟨a * 10, b - 1, rfl, rfl, by omega, by omega, by omega, by rw [← HST.out, HAB.out]⟩
            case measure => simp [intOf]; omega
          · have hz0 : b = 0 := by omega
            have ea : a = wtail q.1 q.2 := by rw [← hab, hz0]; rfl
            have hb2 : a ≤ 1125899906842624000 := by omega
            have HEA := Lib.hid ea
            clear hab hge htop ea hz0
            by_cases hm : s[0].toNat = 45
            · have HM : Hid (minus s.data.toList = true) := Lib.hid (by rw [HMI.out]; simp [hm])
              go_wp2_with fail
              refine (RHold_any _ _).mono ?_; rintro e w' ⟨rfl, rfl⟩
              go_wp2_with fail
              go_ret
              exact ⟨ret_int (by rw [HW.out, HM.out, if_pos rfl, HEA.out]), rfl⟩
            · have HM : Hid (minus s.data.toList = false) := Lib.hid (by rw [HMI.out]; simp [hm])
              have hm' : ((s[0].toNat : Int) == 45) = false := by simp; omega
              clear hm
              go_wp2_with fail
              refine (RHold_any _ _).mono ?_; rintro e w' ⟨rfl, rfl⟩
              go_wp2_with fail
              go_ret
              exact ⟨ret_int (by rw [HW.out, HM.out, if_neg (by simp), HEA.out]), rfl⟩

end Go.Proofs.Ytmicgfpiknibhaa
