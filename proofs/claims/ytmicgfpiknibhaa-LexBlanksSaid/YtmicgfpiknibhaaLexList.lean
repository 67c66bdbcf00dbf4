/- Lists of tokens: the reference's All, the law's short; Lex of the program. -/
import Derived.Test.YtmicgfpiknibhaaLexPr
namespace Go.Proofs.Ytmicgfpiknibhaa
open Go.RowKit
set_option linter.unusedSimpArgs false
set_option linter.unusedVariables false
attribute [local go_sem] cell?_ext frozen?_ext lt_size_ext

set_option maxHeartbeats 1000000 in
theorem Lex_any (s : ByteArray) (hs : s.size ≤ 1000000) (w : World) (hg : Gm w) :
    Calls Try.prog 14 #[.string s] w fun e w' => (32768 < s.size ∧ e = .returned (.tuple #[.slice none 0 0, .int .i64 2]) ∧ Below w.heap.size w w') ∨
      (s.size ≤ 32768 ∧ ∃ v, e = .returned (.tuple #[v, .int .i64 0]) ∧ w'.ownsRow w.heap.size 23 3 v (cut s.data.toList).length (tkCells (cut s.data.toList)) ∧ Below w.heap.size w w') := by
  have HLE := Lib.hid (lexed_any s hs w hg)
  by_cases h : 32768 < s.size
  · have d : decide ((32768 : Int) < (s.size : Int)) = true := decide_eq_true (by omega)
    go_enter Try.func14, Try.ntmps14
    go_wp2_with fail
    go_ret2
    exact .inl ⟨h, rfl, Below.refl _ _⟩
  · have d : decide ((32768 : Int) < (s.size : Int)) = false := decide_eq_false (by omega)
    go_enter Try.func14, Try.ntmps14
    go_wp2_with fail
    refine HLE.out.mono ?_; rintro e w2 ⟨v, rfl, ho, hb⟩
    have HO := Lib.hid ho
    have HB := Lib.hid hb
    clear ho hb
    go_wp2_with fail
    go_ret2
    exact .inr ⟨by omega, v, rfl, HO.out, HB.out⟩

set_option maxHeartbeats 1000000 in
theorem RAll_any (L : List Tk) (ao : Option Addr) (cap : Nat) (hl : L.length ≤ 1000000) (hx : ∀ t ∈ L, t.x.length ≤ 100000) (w : World) (hT : Tks w ao L) :
    Calls Try.prog 13 #[.slice ao L.length cap] w fun e w' => e = .returned (.bool (L.all rightT)) ∧ Below w.heap.size w w' := by
  have HT := Lib.hid hT
  obtain ⟨n, hn⟩ : ∃ n, n = L.length := ⟨_, rfl⟩
  have HN := Lib.hid hn
  rw [← hn] at hl ⊢
  have HX := Lib.hid hx
  clear hT hn hx
  go_enter Try.func13, Try.ntmps13
  go_wp2_with fail
  go_loopw [3] (fun v3 wr => ∃ j : Nat, j ≤ n ∧ v3 = .int .i64 j ∧ (L.take j).all rightT = true ∧ Below w.heap.size w wr) (fun v3 _ => n - (intOf v3).toNat)
  case atStart => exact ⟨0, by omega, rfl, rfl, Below.refl _ _⟩
  case round =>
    obtain ⟨j, hj, rfl, hall, hbl⟩ := hrel
    by_cases hlt : j < n
    · have hd : decide ((j : Int) < (n : Int)) = true := decide_eq_true (by omega)
      have hjl : j < L.length := by have := HN.out; omega
      have hta : L[j]? = some L[j] := List.getElem?_eq_getElem hjl
      obtain ⟨t, htt⟩ : ∃ t, t = L[j] := ⟨_, rfl⟩
      rw [← htt] at hta
      have hr := fun w => RRight_any t (HX.out t (List.mem_of_getElem? hta)) w
      have hat := all_take hta
      rw [hall, Bool.true_and] at hat
      have hna := not_all hta
      unfold Tk.val at hr
      rcases HT.out.below hbl with h0 | ⟨ba, oa, rfl, hla, hka⟩
      · rw [h0] at hjl; simp at hjl
      obtain ⟨p0, p1, p2⟩ := hka j t hta
      have HBL := Lib.hid hbl
      cases hrt : rightT t with
      | true =>
        rw [hrt] at hr hat
        have HAT := Lib.hid hat
        clear hka hbl hta htt hjl hna hrt hall hat
        go_wp2_with fail
        refine (hr _).mono ?_; rintro e w2 ⟨rfl, hb2⟩
        have HBL2 := Lib.hid (below_then HBL.out hb2)
        clear hb2
        go_wp2_with fail
        go_roundw
        case rel => exact ⟨j + 1, by omega, by go_num, HAT.out, HBL2.out⟩
        case measure => (simp [intOf]; omega)
      | false =>
        rw [hrt] at hr
        have HV := Lib.hid (hna hrt)
        clear hka hbl hta htt hjl hna hrt hall hat
        go_wp2_with fail
        refine (hr _).mono ?_; rintro e w2 ⟨rfl, hb2⟩
        have HBL2 := Lib.hid (below_then HBL.out hb2)
        clear hb2
        go_wp2_with fail
        go_ret
        exact ⟨ret_bool HV.out.symm, HBL2.out⟩
    · have hd : decide ((j : Int) < (n : Int)) = false := decide_eq_false (by omega)
      have HV : Hid (L.all rightT = true) := Lib.hid (by rw [List.take_of_length_le (by have := HN.out; omega)] at hall; exact hall)
      have HBL := Lib.hid hbl
      clear hall hbl
      go_wp2_with fail
      go_ret
      exact ⟨ret_bool HV.out.symm, HBL.out⟩

/-- Is a list not too long, and none of its texts? -/
def shortT (L : List Tk) : Bool := L.all (fun t => decide (t.x.length ≤ 200)) && decide (L.length ≤ 60)
set_option maxHeartbeats 1000000 in
theorem short_any (L : List Tk) (ao : Option Addr) (cap : Nat) (hl : L.length ≤ maxLen) (w : World) (hT : Tks w ao L) :
    Calls Try.prog 11 #[.slice ao L.length cap] w fun e w' => e = .returned (.bool (shortT L)) ∧ w = w' := by
  have HT := Lib.hid hT
  obtain ⟨n, hn⟩ : ∃ n, n = L.length := ⟨_, rfl⟩
  have HN := Lib.hid hn
  rw [← hn] at hl ⊢
  unfold maxLen at hl
  clear hT hn
  go_enter Try.func11, Try.ntmps11
  go_wp2_with fail
  go_loop [3] (fun v3 => ∃ j : Nat, j ≤ n ∧ v3 = .int .i64 j ∧ (L.take j).all (fun t => decide (t.x.length ≤ 200)) = true) (fun v3 => n - (intOf v3).toNat)
  case atStart => exact ⟨0, by omega, rfl, rfl⟩
  case round =>
    obtain ⟨j, hj, rfl, hall⟩ := hrel
    by_cases hlt : j < n
    · have hd : decide ((j : Int) < (n : Int)) = true := decide_eq_true (by omega)
      have hjl : j < L.length := by have := HN.out; omega
      have hta : L[j]? = some L[j] := List.getElem?_eq_getElem hjl
      obtain ⟨t, htt⟩ : ∃ t, t = L[j] := ⟨_, rfl⟩
      rw [← htt] at hta
      have hat : (L.take (j + 1)).all (fun t => decide (t.x.length ≤ 200)) = decide (t.x.length ≤ 200) := by rw [take_at hta, List.all_append, hall]; simp
      have hna : t.x.length ≤ 200 ∨ shortT L = false := by
        by_cases h : t.x.length ≤ 200
        · exact .inl h
        · right
          unfold shortT
          rw [Bool.and_eq_false_iff]
          left
          rw [Bool.eq_false_iff]
          intro ha
          exact h (of_decide_eq_true (List.all_eq_true.1 ha t (List.mem_of_getElem? hta)))
      have hsz := strOf_size t.x
      rcases HT.out with h0 | ⟨ba, oa, rfl, hla, hka⟩
      · rw [h0] at hjl; simp at hjl
      obtain ⟨p0, p1, p2⟩ := hka j t hta
      by_cases hx : t.x.length ≤ 200
      · have HAT := Lib.hid (hat.trans (decide_eq_true hx))
        have d2 : decide ((200 : Int) < ((strOf t.x).size : Int)) = false := decide_eq_false (by omega)
        clear hka hta htt hjl hna hall hat hsz hx
        go_wp2_with fail
        go_round
        case rel => exact ⟨j + 1, by omega, by go_num, HAT.out⟩
        case measure => (simp [intOf]; omega)
      · have d2 : decide ((200 : Int) < ((strOf t.x).size : Int)) = true := decide_eq_true (by omega)
        have HV := Lib.hid (hna.resolve_left hx)
        clear hka hta htt hjl hna hall hat hsz hx
        go_wp2_with fail
        go_ret
        exact ⟨ret_bool HV.out.symm, rfl⟩
    · have hd : decide ((j : Int) < (n : Int)) = false := decide_eq_false (by omega)
      have HV : Hid (shortT L = decide (n ≤ 60)) := Lib.hid (by rw [List.take_of_length_le (by have := HN.out; omega)] at hall; unfold shortT; rw [hall, HN.out]; rfl)
      clear hall
      by_cases h60 : n ≤ 60
      · have d6 : decide ((n : Int) ≤ 60) = true := decide_eq_true (by omega)
        have HV2 := Lib.hid (HV.out.trans (decide_eq_true h60))
        clear HV h60
        go_wp2_with fail
        go_ret
        exact ⟨ret_bool (by rw [HV2.out]), rfl⟩
      · have d6 : decide ((n : Int) ≤ 60) = false := decide_eq_false (by omega)
        have HV2 := Lib.hid (HV.out.trans (decide_eq_false h60))
        clear HV h60
        go_wp2_with fail
        go_ret
        exact ⟨ret_bool (by rw [HV2.out]), rfl⟩
end Go.Proofs.Ytmicgfpiknibhaa
