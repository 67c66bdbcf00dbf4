/- A number with what stands behind it: the reference's Measure. -/
import Derived.Test.YtmicgfpiknibhaaLexRef3
import Derived.Test.YtmicgfpiknibhaaLexNum
import Derived.Test.YtmicgfpiknibhaaWorthOnly
namespace Go.Proofs.Ytmicgfpiknibhaa
open Go.RowKit
set_option linter.unusedSimpArgs false
set_option linter.unusedVariables false
attribute [local go_sem] cell?_ext frozen?_ext lt_size_ext

theorem measured_pct {l : List UInt8} {n : Nat} (h : heads 37 (l.drop n) = true) : measured l n = (⟨8, [], worth (l.take n)⟩, n + 1) := by unfold measured; dsimp only; rw [if_pos h]
theorem measured_dim {l : List UInt8} {n : Nat} (h : heads 37 (l.drop n) = false) (h2 : starts (l.drop n) = true) : measured l n = (⟨9, (l.drop n).take (runL isG (l.drop n)), worth (l.take n)⟩, n + runL isG (l.drop n)) := by
  unfold measured; dsimp only; rw [if_neg (by rw [h]; simp), if_pos h2]
theorem measured_num {l : List UInt8} {n : Nat} (h : heads 37 (l.drop n) = false) (h2 : starts (l.drop n) = false) : measured l n = (⟨7, [], worth (l.take n)⟩, n) := by
  unfold measured; dsimp only; rw [if_neg (by rw [h]; simp), if_neg (by rw [h2]; simp)]

set_option maxHeartbeats 4000000 in
theorem RMeasure5_any (s : ByteArray) (a n : Nat) (h0 : 0 < n) (ha : a + n ≤ s.size) (hs : s.size ≤ maxLen) (w : World) :
    Calls Try.prog 49 #[.string s, .int .i64 a, .int .i64 n] w fun e w' => e = .returned (.tuple #[(measured (s.data.toList.drop a) n).1.val, .int .i64 ((a + (measured (s.data.toList.drop a) n).2 : Nat) : Int)]) ∧ Below w.heap.size w w' := by
  have hss := hs
  unfold maxLen at hs
  have hxs : (s.extract a (a + n)).size = n := by rw [← len_data, ext_data, List.length_take, List.length_drop, len_data]; omega
  have hwo := fun w => RWorth_any (s.extract a (a + n)) (by omega) (by unfold maxLen; omega) w
  rw [ext_data, show a + n - a = n by omega] at hwo
  have hdd : (s.data.toList.drop a).drop n = s.data.toList.drop (a + n) := by rw [List.drop_drop]
  have hst := fun w => RStarts_any s (a + n) hss ha w
  have hru := fun w => RRun_any s (a + n) ha hss w
  have hrl := runL_le isG (s.data.toList.drop (a + n))
  rw [List.length_drop, len_data] at hrl
  obtain ⟨Q, hQ⟩ : ∃ Q, Q = measured (s.data.toList.drop a) n := ⟨_, rfl⟩
  rw [← hQ]
  obtain ⟨b, hb⟩ : ∃ b, b = a + n := ⟨_, rfl⟩
  have hbI : (a : Int) + (n : Int) = (b : Int) := by omega
  rw [← hb] at hst hru hdd ha hrl
  have m1 := @measured_pct (s.data.toList.drop a) n
  have m2 := @measured_dim (s.data.toList.drop a) n
  have m3 := @measured_num (s.data.toList.drop a) n
  rw [hdd] at m1 m2 m3
  generalize worth ((s.data.toList.drop a).take n) = N at *
  have HX : Hid (s.extract a b = s.extract a b) := Lib.hid rfl
  rw [← hb] at hwo
  have HWO := Lib.hid hwo
  have HBN := Lib.hid hb
  have hle : (a : Int) ≤ (b : Int) := by omega
  have hble : (b : Int) ≤ (s.size : Int) := by omega
  clear hwo hxs hdd hb HX
  by_cases hp : heads 37 (s.data.toList.drop b) = true
  · have HE := Lib.hid (hQ.trans (m1 hp))
    by_cases hlt : b < s.size
    · rw [heads_at 37 s b hlt] at hp
      have e37 : ((s[b].toNat : Int) == 37) = true := (byte_eq s[b] 37).trans hp
      clear hp
      clear m1 m2 m3 hQ hst hru hrl
      go_enter Try.func49, Try.ntmps49
      go_wp2_with (first | (go_at_call 65; refine (HWO.out _).mono ?_; rintro e w' ⟨rfl, rfl⟩))
      have hR : (b : Int) + 1 = ((a + (n + 1) : Nat) : Int) := by have := HBN.out; omega
      exact bodyPost_ret (v := .tuple #[.agg #[.int .i64 8, .string { data := #[] }, .int .i64 N], .int .i64 ((b : Int) + 1)]) (by simp [results, Try.results49, go_sem]) rfl ⟨by rw [HE.out, hR]; rfl, by
        (repeat (first | with_reducible exact Below.refl _ _ | with_reducible refine below_set ?_ (by first | (simp; done) | (simp; omega)) _ | with_reducible refine below_alloc ?_ _))⟩
    · rw [heads_end 37 s b (by omega)] at hp
      cases hp
  · have hp : heads 37 (s.data.toList.drop b) = false := by simpa using hp
    by_cases hs2 : starts (s.data.toList.drop b) = true
    · have HE := Lib.hid (hQ.trans (m2 hp hs2))
      rw [hs2] at hst
      generalize runL isG (s.data.toList.drop b) = k at *
      clear hs2
      by_cases hlt : b < s.size
      · rw [heads_at 37 s b hlt] at hp
        have e37 : ((s[b].toNat : Int) == 37) = false := (byte_eq s[b] 37).trans hp
        clear hp
        have hkb : (b : Int) + (k : Int) ≤ (s.size : Int) := by omega
        have HST := Lib.hid hst
        have HRU := Lib.hid hru
        clear m1 m2 m3 hQ hst hru hrl
        go_enter Try.func49, Try.ntmps49
        go_wp2_with (first | (go_at_call 65; refine (HWO.out _).mono ?_; rintro e w' ⟨rfl, rfl⟩) | (go_at_call 51; refine (HST.out _).mono ?_; rintro e w' ⟨rfl, rfl⟩) | (go_at_call 50; refine (HRU.out _).mono ?_; rintro e w' ⟨rfl, rfl⟩))
        have hR : (b : Int) + (k : Int) = ((a + (n + k) : Nat) : Int) := by have := HBN.out; omega
        exact bodyPost_ret (v := .tuple #[.agg #[.int .i64 9, .string (s.extract b (b + k)), .int .i64 N], .int .i64 ((b : Int) + (k : Int))]) (by simp [results, Try.results49, go_sem]) rfl ⟨by rw [HE.out, hR, ext_str s b (b + k) k (by omega)]; rfl, by
          (repeat (first | with_reducible exact Below.refl _ _ | with_reducible refine below_set ?_ (by first | (simp; done) | (simp; omega)) _ | with_reducible refine below_alloc ?_ _))⟩
      · clear hp
        have hkb : (b : Int) + (k : Int) ≤ (s.size : Int) := by omega
        have HST := Lib.hid hst
        have HRU := Lib.hid hru
        clear m1 m2 m3 hQ hst hru hrl
        go_enter Try.func49, Try.ntmps49
        go_wp2_with (first | (go_at_call 65; refine (HWO.out _).mono ?_; rintro e w' ⟨rfl, rfl⟩) | (go_at_call 51; refine (HST.out _).mono ?_; rintro e w' ⟨rfl, rfl⟩) | (go_at_call 50; refine (HRU.out _).mono ?_; rintro e w' ⟨rfl, rfl⟩))
        have hR : (b : Int) + (k : Int) = ((a + (n + k) : Nat) : Int) := by have := HBN.out; omega
        exact bodyPost_ret (v := .tuple #[.agg #[.int .i64 9, .string (s.extract b (b + k)), .int .i64 N], .int .i64 ((b : Int) + (k : Int))]) (by simp [results, Try.results49, go_sem]) rfl ⟨by rw [HE.out, hR, ext_str s b (b + k) k (by omega)]; rfl, by
          (repeat (first | with_reducible exact Below.refl _ _ | with_reducible refine below_set ?_ (by first | (simp; done) | (simp; omega)) _ | with_reducible refine below_alloc ?_ _))⟩
    · have hs2 : starts (s.data.toList.drop b) = false := by simpa using hs2
      have HE := Lib.hid (hQ.trans (m3 hp hs2))
      rw [hs2] at hst
      clear hs2
      by_cases hlt : b < s.size
      · rw [heads_at 37 s b hlt] at hp
        have e37 : ((s[b].toNat : Int) == 37) = false := (byte_eq s[b] 37).trans hp
        clear hp
        have HST := Lib.hid hst
        clear m1 m2 m3 hQ hst hru hrl
        go_enter Try.func49, Try.ntmps49
        go_wp2_with (first | (go_at_call 65; refine (HWO.out _).mono ?_; rintro e w' ⟨rfl, rfl⟩) | (go_at_call 51; refine (HST.out _).mono ?_; rintro e w' ⟨rfl, rfl⟩))
        have hR : (b : Int) = ((a + n : Nat) : Int) := by have := HBN.out; omega
        exact bodyPost_ret (v := .tuple #[.agg #[.int .i64 7, .string { data := #[] }, .int .i64 N], .int .i64 (b : Int)]) (by simp [results, Try.results49, go_sem]) rfl ⟨by rw [HE.out, hR]; rfl, by
          (repeat (first | with_reducible exact Below.refl _ _ | with_reducible refine below_set ?_ (by first | (simp; done) | (simp; omega)) _ | with_reducible refine below_alloc ?_ _))⟩
      · clear hp
        have HST := Lib.hid hst
        clear m1 m2 m3 hQ hst hru hrl
        go_enter Try.func49, Try.ntmps49
        go_wp2_with (first | (go_at_call 65; refine (HWO.out _).mono ?_; rintro e w' ⟨rfl, rfl⟩) | (go_at_call 51; refine (HST.out _).mono ?_; rintro e w' ⟨rfl, rfl⟩))
        have hR : (b : Int) = ((a + n : Nat) : Int) := by have := HBN.out; omega
        exact bodyPost_ret (v := .tuple #[.agg #[.int .i64 7, .string { data := #[] }, .int .i64 N], .int .i64 (b : Int)]) (by simp [results, Try.results49, go_sem]) rfl ⟨by rw [HE.out, hR]; rfl, by
          (repeat (first | with_reducible exact Below.refl _ _ | with_reducible refine below_set ?_ (by first | (simp; done) | (simp; omega)) _ | with_reducible refine below_alloc ?_ _))⟩
end Go.Proofs.Ytmicgfpiknibhaa
