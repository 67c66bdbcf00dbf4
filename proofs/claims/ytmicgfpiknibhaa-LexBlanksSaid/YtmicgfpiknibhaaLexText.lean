/- A token's text: the program's and the reference's. -/
import Derived.Test.YtmicgfpiknibhaaLexGood
import Derived.Test.YtmicgfpiknibhaaLexShelf
import Derived.Test.YtmicgfpiknibhaaLexPass
import Derived.Test.YtmicgfpiknibhaaPrintAny
namespace Go.Proofs.Ytmicgfpiknibhaa
open Go.RowKit
set_option linter.unusedSimpArgs false
set_option linter.unusedVariables false
attribute [local go_sem] cell?_ext frozen?_ext lt_size_ext

theorem strOf_app (a b : List UInt8) : strOf (a ++ b) = strOf a ++ strOf b := by
  apply ByteArray.ext
  simp [strOf, ByteArray.data_append]
theorem strOf_size (a : List UInt8) : (strOf a).size = a.length := by rw [← len_data, strOf_data]
theorem strOf_of (s : ByteArray) : strOf s.data.toList = s := Go.WideShapes.bytes_inj (strOf_data _)
theorem strOfNums_byt (l : List Int) : strOfNums l = strOf (byt l) := Go.WideShapes.bytes_inj (by rw [strOf_data]; rfl)
theorem has34_index : ∀ l : List UInt8, Lib.contains l [34] = l.any (fun c => decide (c.toNat = 34))
  | [] => rfl
  | c :: t => by
    have ih := has34_index t
    unfold Lib.contains at ih ⊢
    have e : ((34 : UInt8) == c) = decide (c.toNat = 34) := by
      rw [Bool.eq_iff_iff, beq_iff_eq, decide_eq_true_eq]
      exact ⟨fun h => by rw [← h]; rfl, fun h => by rw [byte_of h]; rfl⟩
    have e2 : ([34] : List UInt8).isPrefixOf (c :: t) = decide (c.toNat = 34) := by
      show ((34 : UInt8) == c && true) = _
      rw [Bool.and_true, e]
    rw [Lib.index, e2, List.any_cons, ← ih]
    have hge := Lib.index_ge t [34]
    cases h : decide (c.toNat = 34) with
    | true => simp
    | false =>
      rw [if_neg (by simp), Bool.false_or]
      by_cases h1 : Lib.index t [34] = -1
      · rw [h1]; decide
      · rw [if_neg (by rw [beq_iff_eq]; exact h1), Bool.eq_iff_iff, decide_eq_true_eq, decide_eq_true_eq]
        omega

theorem byt_be_len : ∀ (k l n : Nat), n < 10 ^ k → l ≤ k → (be l n).length ≤ k
  | 0, l, n, hn, hl => by
    obtain rfl : l = 0 := by omega
    have : n = 0 := by simpa using hn
    subst this
    rw [be_end (by omega)]; exact Nat.zero_le _
  | k + 1, l, n, hn, hl => by
    by_cases h : 0 < n ∨ 0 < l
    · have ih := byt_be_len k (l - 1) (n / 10) (by rw [Nat.pow_succ] at hn; omega) (by omega)
      rw [be_step h, List.length_append, List.length_singleton]; omega
    · rw [be_end h]; exact Nat.zero_le _
theorem fr_short (p : Nat) : (fr 100 p).length ≤ 3 := by
  by_cases h : 0 < p
  · rw [fr_on (by omega), List.length_cons]
    have h1 : (fr 10 (p % 100)).length ≤ 2 := by
      by_cases h : 0 < p % 100
      · rw [fr_on (by omega), List.length_cons]
        have h1 : (fr 1 (p % 100 % 10)).length ≤ 1 := by
          by_cases h : 0 < p % 100 % 10
          · rw [fr_on (by omega), List.length_cons, fr_end (by omega)]; exact Nat.le_refl _
          · rw [fr_end (by omega)]; exact Nat.zero_le _
        have e : (10 : Nat) / 10 = 1 := rfl
        rw [e]; omega
      · rw [fr_end (by omega)]; exact Nat.zero_le _
    have e : (100 : Nat) / 10 = 10 := rfl
    rw [e]; omega
  · rw [fr_end (by omega)]; exact Nat.zero_le _
theorem prt_short (v : Nat) (h : v ≤ 1073741824) : (prt v).length ≤ 11 := by
  unfold prt
  have h1 := byt_be_len 7 1 (v / 1000) (by omega) (by omega)
  have h2 := fr_short (v % 1000)
  rw [List.length_append]
  split
  · simp only [List.length_nil]; omega
  · rw [List.length_cons]; omega
theorem prtI_short (n : Int) : (byt (prtI n)).length ≤ 12 := by
  have hb := hold_bd n
  rw [byt_len]
  unfold prtI
  split
  · have := prt_short (-(hold n)).toNat (by omega); rw [List.length_cons]; omega
  · have := prt_short (hold n).toNat (by omega); omega

set_option maxHeartbeats 1000000 in
theorem RHas34_any (s : ByteArray) (hs : s.size ≤ maxLen) (w : World) : Calls Try.prog 40 #[.string s] w fun e w' => e = .returned (.bool (s.data.toList.any (fun c => decide (c.toNat = 34)))) ∧ w = w' := by
  unfold maxLen at hs
  obtain ⟨b, hb⟩ : ∃ b, b = s.data.toList.any (fun c => decide (c.toNat = 34)) := ⟨_, rfl⟩
  rw [← hb]
  have HB := Lib.hid hb
  clear hb
  go_enter Try.func40, Try.ntmps40
  go_wp2_with fail
  go_loop [3] (fun i => ∃ j : Nat, j ≤ s.size ∧ i = .int .i64 j ∧ b = (s.data.toList.drop j).any (fun c => decide (c.toNat = 34))) (fun i => s.size - (intOf i).toNat)
  case atStart => exact ⟨0, by omega, rfl, HB.out⟩
  case round =>
    obtain ⟨j, hj, rfl, hbj⟩ := hrel
    by_cases hlt : j < s.size
    · have h8 : s[j].toNat < 256 := s[j].toNat_lt
      rw [drop_at s j hlt, List.any_cons] at hbj
      by_cases h : s[j].toNat = 34
      · have e : ((s[j].toNat : Int) == 34) = true := by rw [h]; rfl
        have HV : Hid (b = true) := Lib.hid (by rw [hbj, decide_eq_true h]; rfl)
        clear hbj h
        go_wp2_with fail
        go_ret
        exact ⟨ret_bool HV.out.symm, rfl⟩
      · have e : ((s[j].toNat : Int) == 34) = false := beq_false_of_ne (by omega)
        have HV := Lib.hid (show b = (s.data.toList.drop (j + 1)).any (fun c => decide (c.toNat = 34)) by rw [hbj, decide_eq_false h]; rfl)
        clear hbj h
        go_wp2_with fail
        go_round
        case rel => exact ⟨j + 1, by omega, by go_num, HV.out⟩
        case measure => (simp [intOf]; omega)
    · have HV : Hid (b = false) := Lib.hid (by rw [hbj, drop_end s j (by omega)]; rfl)
      clear hbj
      go_wp2_with fail
      go_ret
      exact ⟨ret_bool HV.out.symm, rfl⟩

set_option maxHeartbeats 2000000 in
theorem text_1 (x : List UInt8) (n : Int) (hx : x.length ≤ 100000) (w : World) (hg : Gm w) :
    Calls Try.prog 18 #[(⟨1, x, n⟩ : Tk).val] w fun e w' => e = .returned (.tuple #[.string (strOf (tx ⟨1, x, n⟩)), .bool (textT ⟨1, x, n⟩).isSome]) ∧ Below w.heap.size w w' := by
  have hsz := strOf_size x
  have HE : Hid (strOf (tx ⟨1, x, n⟩) = strOf x ∧ (textT ⟨1, x, n⟩).isSome = true) := Lib.hid (by exact ⟨rfl, rfl⟩)
  unfold Tk.val
  generalize hX : strOf x = X at *
  have hXs : X.size ≤ 100000 := by rw [hsz]; exact hx
  dsimp only
  generalize strOf (tx ⟨1, x, n⟩) = S at *
  generalize (textT ⟨1, x, n⟩).isSome = B at *
  clear hsz hx
  go_enter Try.func18, Try.ntmps18
  go_wp2_with fail
  exact bodyPost_ret (v := .tuple #[.string (X), .bool true]) (by simp [results, Try.results18, go_sem]) rfl ⟨by rw [HE.out.1, HE.out.2], by
    (repeat (first | with_reducible exact Below.refl _ _ | with_reducible exact HB.out | with_reducible refine below_set ?_ (by first | (simp; done) | (simp; omega)) _ | with_reducible refine below_alloc ?_ _))⟩

set_option maxHeartbeats 2000000 in
theorem text_19 (x : List UInt8) (n : Int) (hx : x.length ≤ 100000) (w : World) (hg : Gm w) :
    Calls Try.prog 18 #[(⟨19, x, n⟩ : Tk).val] w fun e w' => e = .returned (.tuple #[.string (strOf (tx ⟨19, x, n⟩)), .bool (textT ⟨19, x, n⟩).isSome]) ∧ Below w.heap.size w w' := by
  have hsz := strOf_size x
  have HE : Hid (strOf (tx ⟨19, x, n⟩) = strOf x ∧ (textT ⟨19, x, n⟩).isSome = true) := Lib.hid (by exact ⟨rfl, rfl⟩)
  unfold Tk.val
  generalize hX : strOf x = X at *
  have hXs : X.size ≤ 100000 := by rw [hsz]; exact hx
  dsimp only
  generalize strOf (tx ⟨19, x, n⟩) = S at *
  generalize (textT ⟨19, x, n⟩).isSome = B at *
  clear hsz hx
  go_enter Try.func18, Try.ntmps18
  go_wp2_with fail
  exact bodyPost_ret (v := .tuple #[.string (X), .bool true]) (by simp [results, Try.results18, go_sem]) rfl ⟨by rw [HE.out.1, HE.out.2], by
    (repeat (first | with_reducible exact Below.refl _ _ | with_reducible exact HB.out | with_reducible refine below_set ?_ (by first | (simp; done) | (simp; omega)) _ | with_reducible refine below_alloc ?_ _))⟩

set_option maxHeartbeats 2000000 in
theorem text_2 (x : List UInt8) (n : Int) (hx : x.length ≤ 100000) (w : World) (hg : Gm w) :
    Calls Try.prog 18 #[(⟨2, x, n⟩ : Tk).val] w fun e w' => e = .returned (.tuple #[.string (strOf (tx ⟨2, x, n⟩)), .bool (textT ⟨2, x, n⟩).isSome]) ∧ Below w.heap.size w w' := by
  have hsz := strOf_size x
  have HE : Hid (strOf (tx ⟨2, x, n⟩) = strOf x ++ { data := #[40] } ∧ (textT ⟨2, x, n⟩).isSome = true) := Lib.hid (by exact ⟨strOf_app x [40], rfl⟩)
  unfold Tk.val
  generalize hX : strOf x = X at *
  have hXs : X.size ≤ 100000 := by rw [hsz]; exact hx
  dsimp only
  generalize strOf (tx ⟨2, x, n⟩) = S at *
  generalize (textT ⟨2, x, n⟩).isSome = B at *
  clear hsz hx
  go_enter Try.func18, Try.ntmps18
  go_wp2_with fail
  exact bodyPost_ret (v := .tuple #[.string (X ++ { data := #[40] }), .bool true]) (by simp [results, Try.results18, go_sem]) rfl ⟨by rw [HE.out.1, HE.out.2], by
    (repeat (first | with_reducible exact Below.refl _ _ | with_reducible exact HB.out | with_reducible refine below_set ?_ (by first | (simp; done) | (simp; omega)) _ | with_reducible refine below_alloc ?_ _))⟩

set_option maxHeartbeats 2000000 in
theorem text_3 (x : List UInt8) (n : Int) (hx : x.length ≤ 100000) (w : World) (hg : Gm w) :
    Calls Try.prog 18 #[(⟨3, x, n⟩ : Tk).val] w fun e w' => e = .returned (.tuple #[.string (strOf (tx ⟨3, x, n⟩)), .bool (textT ⟨3, x, n⟩).isSome]) ∧ Below w.heap.size w w' := by
  have hsz := strOf_size x
  have HE : Hid (strOf (tx ⟨3, x, n⟩) = { data := #[64] } ++ strOf x ∧ (textT ⟨3, x, n⟩).isSome = true) := Lib.hid (by exact ⟨strOf_app [64] x, rfl⟩)
  unfold Tk.val
  generalize hX : strOf x = X at *
  have hXs : X.size ≤ 100000 := by rw [hsz]; exact hx
  dsimp only
  generalize strOf (tx ⟨3, x, n⟩) = S at *
  generalize (textT ⟨3, x, n⟩).isSome = B at *
  clear hsz hx
  go_enter Try.func18, Try.ntmps18
  go_wp2_with fail
  exact bodyPost_ret (v := .tuple #[.string ({ data := #[64] } ++ X), .bool true]) (by simp [results, Try.results18, go_sem]) rfl ⟨by rw [HE.out.1, HE.out.2], by
    (repeat (first | with_reducible exact Below.refl _ _ | with_reducible exact HB.out | with_reducible refine below_set ?_ (by first | (simp; done) | (simp; omega)) _ | with_reducible refine below_alloc ?_ _))⟩

set_option maxHeartbeats 2000000 in
theorem text_4 (x : List UInt8) (n : Int) (hx : x.length ≤ 100000) (w : World) (hg : Gm w) :
    Calls Try.prog 18 #[(⟨4, x, n⟩ : Tk).val] w fun e w' => e = .returned (.tuple #[.string (strOf (tx ⟨4, x, n⟩)), .bool (textT ⟨4, x, n⟩).isSome]) ∧ Below w.heap.size w w' := by
  have hsz := strOf_size x
  have HE : Hid (strOf (tx ⟨4, x, n⟩) = { data := #[35] } ++ strOf x ∧ (textT ⟨4, x, n⟩).isSome = true) := Lib.hid (by exact ⟨strOf_app [35] x, rfl⟩)
  unfold Tk.val
  generalize hX : strOf x = X at *
  have hXs : X.size ≤ 100000 := by rw [hsz]; exact hx
  dsimp only
  generalize strOf (tx ⟨4, x, n⟩) = S at *
  generalize (textT ⟨4, x, n⟩).isSome = B at *
  clear hsz hx
  go_enter Try.func18, Try.ntmps18
  go_wp2_with fail
  exact bodyPost_ret (v := .tuple #[.string ({ data := #[35] } ++ X), .bool true]) (by simp [results, Try.results18, go_sem]) rfl ⟨by rw [HE.out.1, HE.out.2], by
    (repeat (first | with_reducible exact Below.refl _ _ | with_reducible exact HB.out | with_reducible refine below_set ?_ (by first | (simp; done) | (simp; omega)) _ | with_reducible refine below_alloc ?_ _))⟩

set_option maxHeartbeats 2000000 in
theorem text_5_39 (x : List UInt8) (n : Int) (hx : x.length ≤ 100000) (h34 : x.any (fun c => decide (c.toNat = 34)) = true) (w : World) (hg : Gm w) :
    Calls Try.prog 18 #[(⟨5, x, n⟩ : Tk).val] w fun e w' => e = .returned (.tuple #[.string (strOf (tx ⟨5, x, n⟩)), .bool (textT ⟨5, x, n⟩).isSome]) ∧ Below w.heap.size w w' := by
  have hsz := strOf_size x
  have HE : Hid (strOf (tx ⟨5, x, n⟩) = { data := #[39] } ++ strOf x ++ { data := #[39] } ∧ (textT ⟨5, x, n⟩).isSome = true) := Lib.hid (by rw [show ({ data := #[39] } ++ strOf x ++ { data := #[39] } : ByteArray) = strOf ([39] ++ x ++ [39]) by rw [strOf_app, strOf_app]; rfl]; refine ⟨?_, rfl⟩; show strOf (quoteB x :: (x ++ [quoteB x])) = _; unfold quoteB; rw [h34]; rfl)
  unfold Tk.val
  generalize hX : strOf x = X at *
  have hXs : X.size ≤ 100000 := by rw [hsz]; exact hx
  dsimp only
  generalize strOf (tx ⟨5, x, n⟩) = S at *
  generalize (textT ⟨5, x, n⟩).isSome = B at *
  clear hsz hx
  obtain ⟨m, hm⟩ := hg
  have hco := Sh.strings_Contains X { data := #[34] } m (w.alloc (.cells #[.int .i64 5, .string X, .int .i64 n] 23)) (by omega) ((((Below.refl _ w).alloc (Nat.le_refl _) _).cell (p := ⟨0, 0, none⟩) (World.block_lt_of_cell? w _ hm)).trans hm)
  have e34 : Lib.contains X.data.toList ({ data := #[34] } : ByteArray).data.toList = true := by rw [← hX, strOf_data]; exact (has34_index x).trans h34
  rw [e34] at hco
  clear e34 h34 hm
  go_enter Try.func18, Try.ntmps18
  go_wp2_with fail
  refine hco.mono ?_; rintro e w2 ⟨rfl, rfl⟩
  go_wp2_with fail
  exact bodyPost_ret (v := .tuple #[.string ({ data := #[39] } ++ X ++ { data := #[39] }), .bool true]) (by simp [results, Try.results18, go_sem]) rfl ⟨by rw [HE.out.1, HE.out.2], by
    (repeat (first | with_reducible exact Below.refl _ _ | with_reducible exact HB.out | with_reducible refine below_set ?_ (by first | (simp; done) | (simp; omega)) _ | with_reducible refine below_alloc ?_ _))⟩

set_option maxHeartbeats 2000000 in
theorem text_5_34 (x : List UInt8) (n : Int) (hx : x.length ≤ 100000) (h34 : x.any (fun c => decide (c.toNat = 34)) = false) (w : World) (hg : Gm w) :
    Calls Try.prog 18 #[(⟨5, x, n⟩ : Tk).val] w fun e w' => e = .returned (.tuple #[.string (strOf (tx ⟨5, x, n⟩)), .bool (textT ⟨5, x, n⟩).isSome]) ∧ Below w.heap.size w w' := by
  have hsz := strOf_size x
  have HE : Hid (strOf (tx ⟨5, x, n⟩) = { data := #[34] } ++ strOf x ++ { data := #[34] } ∧ (textT ⟨5, x, n⟩).isSome = true) := Lib.hid (by rw [show ({ data := #[34] } ++ strOf x ++ { data := #[34] } : ByteArray) = strOf ([34] ++ x ++ [34]) by rw [strOf_app, strOf_app]; rfl]; refine ⟨?_, rfl⟩; show strOf (quoteB x :: (x ++ [quoteB x])) = _; unfold quoteB; rw [h34]; rfl)
  unfold Tk.val
  generalize hX : strOf x = X at *
  have hXs : X.size ≤ 100000 := by rw [hsz]; exact hx
  dsimp only
  generalize strOf (tx ⟨5, x, n⟩) = S at *
  generalize (textT ⟨5, x, n⟩).isSome = B at *
  clear hsz hx
  obtain ⟨m, hm⟩ := hg
  have hco := Sh.strings_Contains X { data := #[34] } m (w.alloc (.cells #[.int .i64 5, .string X, .int .i64 n] 23)) (by omega) ((((Below.refl _ w).alloc (Nat.le_refl _) _).cell (p := ⟨0, 0, none⟩) (World.block_lt_of_cell? w _ hm)).trans hm)
  have e34 : Lib.contains X.data.toList ({ data := #[34] } : ByteArray).data.toList = false := by rw [← hX, strOf_data]; exact (has34_index x).trans h34
  rw [e34] at hco
  clear e34 h34 hm
  go_enter Try.func18, Try.ntmps18
  go_wp2_with fail
  refine hco.mono ?_; rintro e w2 ⟨rfl, rfl⟩
  go_wp2_with fail
  exact bodyPost_ret (v := .tuple #[.string ({ data := #[34] } ++ X ++ { data := #[34] }), .bool true]) (by simp [results, Try.results18, go_sem]) rfl ⟨by rw [HE.out.1, HE.out.2], by
    (repeat (first | with_reducible exact Below.refl _ _ | with_reducible exact HB.out | with_reducible refine below_set ?_ (by first | (simp; done) | (simp; omega)) _ | with_reducible refine below_alloc ?_ _))⟩

set_option maxHeartbeats 2000000 in
theorem text_7 (x : List UInt8) (n : Int) (hx : x.length ≤ 100000) (w : World) (hg : Gm w) :
    Calls Try.prog 18 #[(⟨7, x, n⟩ : Tk).val] w fun e w' => e = .returned (.tuple #[.string (strOf (tx ⟨7, x, n⟩)), .bool (textT ⟨7, x, n⟩).isSome]) ∧ Below w.heap.size w w' := by
  have hsz := strOf_size x
  have HE : Hid (strOf (tx ⟨7, x, n⟩) = strOfNums (prtI n) ∧ (textT ⟨7, x, n⟩).isSome = true) := Lib.hid (by exact ⟨(strOfNums_byt _).symm, rfl⟩)
  unfold Tk.val
  generalize hX : strOf x = X at *
  have hXs : X.size ≤ 100000 := by rw [hsz]; exact hx
  dsimp only
  generalize strOf (tx ⟨7, x, n⟩) = S at *
  generalize (textT ⟨7, x, n⟩).isSome = B at *
  clear hsz hx
  go_enter Try.func18, Try.ntmps18
  go_wp2_with fail
  refine (Print_any n _).mono ?_; rintro e w2 ⟨rfl, hb2⟩
  have HB := Lib.hid (below_then (below_alloc (Below.refl w.heap.size w) (.cells #[.int .i64 7, .string X, .int .i64 n] 23)) hb2)
  clear hb2
  go_wp2_with fail
  exact bodyPost_ret (v := .tuple #[.string (strOfNums (prtI n)), .bool true]) (by simp [results, Try.results18, go_sem]) rfl ⟨by rw [HE.out.1, HE.out.2], by
    (repeat (first | with_reducible exact Below.refl _ _ | with_reducible exact HB.out | with_reducible refine below_set ?_ (by first | (simp; done) | (simp; omega)) _ | with_reducible refine below_alloc ?_ _))⟩

set_option maxHeartbeats 2000000 in
theorem text_8 (x : List UInt8) (n : Int) (hx : x.length ≤ 100000) (w : World) (hg : Gm w) :
    Calls Try.prog 18 #[(⟨8, x, n⟩ : Tk).val] w fun e w' => e = .returned (.tuple #[.string (strOf (tx ⟨8, x, n⟩)), .bool (textT ⟨8, x, n⟩).isSome]) ∧ Below w.heap.size w w' := by
  have hsz := strOf_size x
  have HE : Hid (strOf (tx ⟨8, x, n⟩) = strOfNums (prtI n) ++ { data := #[37] } ∧ (textT ⟨8, x, n⟩).isSome = true) := Lib.hid (by rw [strOfNums_byt]; exact ⟨strOf_app _ [37], rfl⟩)
  unfold Tk.val
  generalize hX : strOf x = X at *
  have hXs : X.size ≤ 100000 := by rw [hsz]; exact hx
  dsimp only
  generalize strOf (tx ⟨8, x, n⟩) = S at *
  generalize (textT ⟨8, x, n⟩).isSome = B at *
  clear hsz hx
  have hns : (strOfNums (prtI n)).size ≤ 12 := by rw [strOfNums_byt, strOf_size]; exact prtI_short n
  go_enter Try.func18, Try.ntmps18
  go_wp2_with fail
  refine (Print_any n _).mono ?_; rintro e w2 ⟨rfl, hb2⟩
  have HB := Lib.hid (below_then (below_alloc (Below.refl w.heap.size w) (.cells #[.int .i64 8, .string X, .int .i64 n] 23)) hb2)
  clear hb2
  go_wp2_with fail
  exact bodyPost_ret (v := .tuple #[.string (strOfNums (prtI n) ++ { data := #[37] }), .bool true]) (by simp [results, Try.results18, go_sem]) rfl ⟨by rw [HE.out.1, HE.out.2], by
    (repeat (first | with_reducible exact Below.refl _ _ | with_reducible exact HB.out | with_reducible refine below_set ?_ (by first | (simp; done) | (simp; omega)) _ | with_reducible refine below_alloc ?_ _))⟩

set_option maxHeartbeats 2000000 in
theorem text_9 (x : List UInt8) (n : Int) (hx : x.length ≤ 100000) (w : World) (hg : Gm w) :
    Calls Try.prog 18 #[(⟨9, x, n⟩ : Tk).val] w fun e w' => e = .returned (.tuple #[.string (strOf (tx ⟨9, x, n⟩)), .bool (textT ⟨9, x, n⟩).isSome]) ∧ Below w.heap.size w w' := by
  have hsz := strOf_size x
  have HE : Hid (strOf (tx ⟨9, x, n⟩) = strOfNums (prtI n) ++ strOf x ∧ (textT ⟨9, x, n⟩).isSome = true) := Lib.hid (by rw [strOfNums_byt]; exact ⟨strOf_app _ x, rfl⟩)
  unfold Tk.val
  generalize hX : strOf x = X at *
  have hXs : X.size ≤ 100000 := by rw [hsz]; exact hx
  dsimp only
  generalize strOf (tx ⟨9, x, n⟩) = S at *
  generalize (textT ⟨9, x, n⟩).isSome = B at *
  clear hsz hx
  have hns : (strOfNums (prtI n)).size ≤ 12 := by rw [strOfNums_byt, strOf_size]; exact prtI_short n
  go_enter Try.func18, Try.ntmps18
  go_wp2_with fail
  refine wp_region_ext (by kernel_rfl) (by kernel_rfl) ?_
  repeat (go_big_quiet_step ((go_at_call 27; exact quiet_ext ((Print_any n _).mono fun e w' h => h))))
  refine wpQuiet_nil ?_
  rintro _ ⟨u, rfl⟩
  have HB := Lib.hid (below_to_ext (below_alloc (Below.refl w.heap.size w) (.cells #[.int .i64 9, .string X, .int .i64 n] 23)) u)
  go_wp2_with fail
  exact bodyPost_ret (v := .tuple #[.string (strOfNums (prtI n) ++ X), .bool true]) (by simp [results, Try.results18, go_sem]) rfl ⟨by rw [HE.out.1, HE.out.2], by
    (repeat (first | with_reducible exact Below.refl _ _ | with_reducible exact HB.out | with_reducible refine below_set ?_ (by first | (simp; done) | (simp; omega)) _ | with_reducible refine below_alloc ?_ _))⟩

set_option maxHeartbeats 2000000 in
theorem text_10 (x : List UInt8) (n : Int) (hx : x.length ≤ 100000) (w : World) (hg : Gm w) :
    Calls Try.prog 18 #[(⟨10, x, n⟩ : Tk).val] w fun e w' => e = .returned (.tuple #[.string (strOf (tx ⟨10, x, n⟩)), .bool (textT ⟨10, x, n⟩).isSome]) ∧ Below w.heap.size w w' := by
  have hsz := strOf_size x
  have HE : Hid (strOf (tx ⟨10, x, n⟩) = { data := #[58] } ∧ (textT ⟨10, x, n⟩).isSome = true) := Lib.hid (by exact ⟨rfl, rfl⟩)
  unfold Tk.val
  generalize hX : strOf x = X at *
  have hXs : X.size ≤ 100000 := by rw [hsz]; exact hx
  dsimp only
  generalize strOf (tx ⟨10, x, n⟩) = S at *
  generalize (textT ⟨10, x, n⟩).isSome = B at *
  clear hsz hx
  go_enter Try.func18, Try.ntmps18
  go_wp2_with fail
  exact bodyPost_ret (v := .tuple #[.string ({ data := #[58] }), .bool true]) (by simp [results, Try.results18, go_sem]; try rfl) rfl ⟨by rw [HE.out.1, HE.out.2], by
    (repeat (first | with_reducible exact Below.refl _ _ | with_reducible exact HB.out | with_reducible refine below_set ?_ (by first | (simp; done) | (simp; omega)) _ | with_reducible refine below_alloc ?_ _))⟩

set_option maxHeartbeats 2000000 in
theorem text_11 (x : List UInt8) (n : Int) (hx : x.length ≤ 100000) (w : World) (hg : Gm w) :
    Calls Try.prog 18 #[(⟨11, x, n⟩ : Tk).val] w fun e w' => e = .returned (.tuple #[.string (strOf (tx ⟨11, x, n⟩)), .bool (textT ⟨11, x, n⟩).isSome]) ∧ Below w.heap.size w w' := by
  have hsz := strOf_size x
  have HE : Hid (strOf (tx ⟨11, x, n⟩) = { data := #[59] } ∧ (textT ⟨11, x, n⟩).isSome = true) := Lib.hid (by exact ⟨rfl, rfl⟩)
  unfold Tk.val
  generalize hX : strOf x = X at *
  have hXs : X.size ≤ 100000 := by rw [hsz]; exact hx
  dsimp only
  generalize strOf (tx ⟨11, x, n⟩) = S at *
  generalize (textT ⟨11, x, n⟩).isSome = B at *
  clear hsz hx
  go_enter Try.func18, Try.ntmps18
  go_wp2_with fail
  exact bodyPost_ret (v := .tuple #[.string ({ data := #[59] }), .bool true]) (by simp [results, Try.results18, go_sem]; try rfl) rfl ⟨by rw [HE.out.1, HE.out.2], by
    (repeat (first | with_reducible exact Below.refl _ _ | with_reducible exact HB.out | with_reducible refine below_set ?_ (by first | (simp; done) | (simp; omega)) _ | with_reducible refine below_alloc ?_ _))⟩

set_option maxHeartbeats 2000000 in
theorem text_12 (x : List UInt8) (n : Int) (hx : x.length ≤ 100000) (w : World) (hg : Gm w) :
    Calls Try.prog 18 #[(⟨12, x, n⟩ : Tk).val] w fun e w' => e = .returned (.tuple #[.string (strOf (tx ⟨12, x, n⟩)), .bool (textT ⟨12, x, n⟩).isSome]) ∧ Below w.heap.size w w' := by
  have hsz := strOf_size x
  have HE : Hid (strOf (tx ⟨12, x, n⟩) = { data := #[44] } ∧ (textT ⟨12, x, n⟩).isSome = true) := Lib.hid (by exact ⟨rfl, rfl⟩)
  unfold Tk.val
  generalize hX : strOf x = X at *
  have hXs : X.size ≤ 100000 := by rw [hsz]; exact hx
  dsimp only
  generalize strOf (tx ⟨12, x, n⟩) = S at *
  generalize (textT ⟨12, x, n⟩).isSome = B at *
  clear hsz hx
  go_enter Try.func18, Try.ntmps18
  go_wp2_with fail
  exact bodyPost_ret (v := .tuple #[.string ({ data := #[44] }), .bool true]) (by simp [results, Try.results18, go_sem]; try rfl) rfl ⟨by rw [HE.out.1, HE.out.2], by
    (repeat (first | with_reducible exact Below.refl _ _ | with_reducible exact HB.out | with_reducible refine below_set ?_ (by first | (simp; done) | (simp; omega)) _ | with_reducible refine below_alloc ?_ _))⟩

set_option maxHeartbeats 2000000 in
theorem text_13 (x : List UInt8) (n : Int) (hx : x.length ≤ 100000) (w : World) (hg : Gm w) :
    Calls Try.prog 18 #[(⟨13, x, n⟩ : Tk).val] w fun e w' => e = .returned (.tuple #[.string (strOf (tx ⟨13, x, n⟩)), .bool (textT ⟨13, x, n⟩).isSome]) ∧ Below w.heap.size w w' := by
  have hsz := strOf_size x
  have HE : Hid (strOf (tx ⟨13, x, n⟩) = { data := #[40] } ∧ (textT ⟨13, x, n⟩).isSome = true) := Lib.hid (by exact ⟨rfl, rfl⟩)
  unfold Tk.val
  generalize hX : strOf x = X at *
  have hXs : X.size ≤ 100000 := by rw [hsz]; exact hx
  dsimp only
  generalize strOf (tx ⟨13, x, n⟩) = S at *
  generalize (textT ⟨13, x, n⟩).isSome = B at *
  clear hsz hx
  go_enter Try.func18, Try.ntmps18
  go_wp2_with fail
  exact bodyPost_ret (v := .tuple #[.string ({ data := #[40] }), .bool true]) (by simp [results, Try.results18, go_sem]; try rfl) rfl ⟨by rw [HE.out.1, HE.out.2], by
    (repeat (first | with_reducible exact Below.refl _ _ | with_reducible exact HB.out | with_reducible refine below_set ?_ (by first | (simp; done) | (simp; omega)) _ | with_reducible refine below_alloc ?_ _))⟩

set_option maxHeartbeats 2000000 in
theorem text_14 (x : List UInt8) (n : Int) (hx : x.length ≤ 100000) (w : World) (hg : Gm w) :
    Calls Try.prog 18 #[(⟨14, x, n⟩ : Tk).val] w fun e w' => e = .returned (.tuple #[.string (strOf (tx ⟨14, x, n⟩)), .bool (textT ⟨14, x, n⟩).isSome]) ∧ Below w.heap.size w w' := by
  have hsz := strOf_size x
  have HE : Hid (strOf (tx ⟨14, x, n⟩) = { data := #[41] } ∧ (textT ⟨14, x, n⟩).isSome = true) := Lib.hid (by exact ⟨rfl, rfl⟩)
  unfold Tk.val
  generalize hX : strOf x = X at *
  have hXs : X.size ≤ 100000 := by rw [hsz]; exact hx
  dsimp only
  generalize strOf (tx ⟨14, x, n⟩) = S at *
  generalize (textT ⟨14, x, n⟩).isSome = B at *
  clear hsz hx
  go_enter Try.func18, Try.ntmps18
  go_wp2_with fail
  exact bodyPost_ret (v := .tuple #[.string ({ data := #[41] }), .bool true]) (by simp [results, Try.results18, go_sem]; try rfl) rfl ⟨by rw [HE.out.1, HE.out.2], by
    (repeat (first | with_reducible exact Below.refl _ _ | with_reducible exact HB.out | with_reducible refine below_set ?_ (by first | (simp; done) | (simp; omega)) _ | with_reducible refine below_alloc ?_ _))⟩

set_option maxHeartbeats 2000000 in
theorem text_15 (x : List UInt8) (n : Int) (hx : x.length ≤ 100000) (w : World) (hg : Gm w) :
    Calls Try.prog 18 #[(⟨15, x, n⟩ : Tk).val] w fun e w' => e = .returned (.tuple #[.string (strOf (tx ⟨15, x, n⟩)), .bool (textT ⟨15, x, n⟩).isSome]) ∧ Below w.heap.size w w' := by
  have hsz := strOf_size x
  have HE : Hid (strOf (tx ⟨15, x, n⟩) = { data := #[91] } ∧ (textT ⟨15, x, n⟩).isSome = true) := Lib.hid (by exact ⟨rfl, rfl⟩)
  unfold Tk.val
  generalize hX : strOf x = X at *
  have hXs : X.size ≤ 100000 := by rw [hsz]; exact hx
  dsimp only
  generalize strOf (tx ⟨15, x, n⟩) = S at *
  generalize (textT ⟨15, x, n⟩).isSome = B at *
  clear hsz hx
  go_enter Try.func18, Try.ntmps18
  go_wp2_with fail
  exact bodyPost_ret (v := .tuple #[.string ({ data := #[91] }), .bool true]) (by simp [results, Try.results18, go_sem]; try rfl) rfl ⟨by rw [HE.out.1, HE.out.2], by
    (repeat (first | with_reducible exact Below.refl _ _ | with_reducible exact HB.out | with_reducible refine below_set ?_ (by first | (simp; done) | (simp; omega)) _ | with_reducible refine below_alloc ?_ _))⟩

set_option maxHeartbeats 2000000 in
theorem text_16 (x : List UInt8) (n : Int) (hx : x.length ≤ 100000) (w : World) (hg : Gm w) :
    Calls Try.prog 18 #[(⟨16, x, n⟩ : Tk).val] w fun e w' => e = .returned (.tuple #[.string (strOf (tx ⟨16, x, n⟩)), .bool (textT ⟨16, x, n⟩).isSome]) ∧ Below w.heap.size w w' := by
  have hsz := strOf_size x
  have HE : Hid (strOf (tx ⟨16, x, n⟩) = { data := #[93] } ∧ (textT ⟨16, x, n⟩).isSome = true) := Lib.hid (by exact ⟨rfl, rfl⟩)
  unfold Tk.val
  generalize hX : strOf x = X at *
  have hXs : X.size ≤ 100000 := by rw [hsz]; exact hx
  dsimp only
  generalize strOf (tx ⟨16, x, n⟩) = S at *
  generalize (textT ⟨16, x, n⟩).isSome = B at *
  clear hsz hx
  go_enter Try.func18, Try.ntmps18
  go_wp2_with fail
  exact bodyPost_ret (v := .tuple #[.string ({ data := #[93] }), .bool true]) (by simp [results, Try.results18, go_sem]; try rfl) rfl ⟨by rw [HE.out.1, HE.out.2], by
    (repeat (first | with_reducible exact Below.refl _ _ | with_reducible exact HB.out | with_reducible refine below_set ?_ (by first | (simp; done) | (simp; omega)) _ | with_reducible refine below_alloc ?_ _))⟩

set_option maxHeartbeats 2000000 in
theorem text_17 (x : List UInt8) (n : Int) (hx : x.length ≤ 100000) (w : World) (hg : Gm w) :
    Calls Try.prog 18 #[(⟨17, x, n⟩ : Tk).val] w fun e w' => e = .returned (.tuple #[.string (strOf (tx ⟨17, x, n⟩)), .bool (textT ⟨17, x, n⟩).isSome]) ∧ Below w.heap.size w w' := by
  have hsz := strOf_size x
  have HE : Hid (strOf (tx ⟨17, x, n⟩) = { data := #[123] } ∧ (textT ⟨17, x, n⟩).isSome = true) := Lib.hid (by exact ⟨rfl, rfl⟩)
  unfold Tk.val
  generalize hX : strOf x = X at *
  have hXs : X.size ≤ 100000 := by rw [hsz]; exact hx
  dsimp only
  generalize strOf (tx ⟨17, x, n⟩) = S at *
  generalize (textT ⟨17, x, n⟩).isSome = B at *
  clear hsz hx
  go_enter Try.func18, Try.ntmps18
  go_wp2_with fail
  exact bodyPost_ret (v := .tuple #[.string ({ data := #[123] }), .bool true]) (by simp [results, Try.results18, go_sem]; try rfl) rfl ⟨by rw [HE.out.1, HE.out.2], by
    (repeat (first | with_reducible exact Below.refl _ _ | with_reducible exact HB.out | with_reducible refine below_set ?_ (by first | (simp; done) | (simp; omega)) _ | with_reducible refine below_alloc ?_ _))⟩

set_option maxHeartbeats 2000000 in
theorem text_18 (x : List UInt8) (n : Int) (hx : x.length ≤ 100000) (w : World) (hg : Gm w) :
    Calls Try.prog 18 #[(⟨18, x, n⟩ : Tk).val] w fun e w' => e = .returned (.tuple #[.string (strOf (tx ⟨18, x, n⟩)), .bool (textT ⟨18, x, n⟩).isSome]) ∧ Below w.heap.size w w' := by
  have hsz := strOf_size x
  have HE : Hid (strOf (tx ⟨18, x, n⟩) = { data := #[125] } ∧ (textT ⟨18, x, n⟩).isSome = true) := Lib.hid (by exact ⟨rfl, rfl⟩)
  unfold Tk.val
  generalize hX : strOf x = X at *
  have hXs : X.size ≤ 100000 := by rw [hsz]; exact hx
  dsimp only
  generalize strOf (tx ⟨18, x, n⟩) = S at *
  generalize (textT ⟨18, x, n⟩).isSome = B at *
  clear hsz hx
  go_enter Try.func18, Try.ntmps18
  go_wp2_with fail
  exact bodyPost_ret (v := .tuple #[.string ({ data := #[125] }), .bool true]) (by simp [results, Try.results18, go_sem]; try rfl) rfl ⟨by rw [HE.out.1, HE.out.2], by
    (repeat (first | with_reducible exact Below.refl _ _ | with_reducible exact HB.out | with_reducible refine below_set ?_ (by first | (simp; done) | (simp; omega)) _ | with_reducible refine below_alloc ?_ _))⟩

set_option maxHeartbeats 2000000 in
theorem text_20 (x : List UInt8) (n : Int) (hx : x.length ≤ 100000) (w : World) (hg : Gm w) :
    Calls Try.prog 18 #[(⟨20, x, n⟩ : Tk).val] w fun e w' => e = .returned (.tuple #[.string (strOf (tx ⟨20, x, n⟩)), .bool (textT ⟨20, x, n⟩).isSome]) ∧ Below w.heap.size w w' := by
  have hsz := strOf_size x
  have HE : Hid (strOf (tx ⟨20, x, n⟩) = { data := #[32] } ∧ (textT ⟨20, x, n⟩).isSome = true) := Lib.hid (by exact ⟨rfl, rfl⟩)
  unfold Tk.val
  generalize hX : strOf x = X at *
  have hXs : X.size ≤ 100000 := by rw [hsz]; exact hx
  dsimp only
  generalize strOf (tx ⟨20, x, n⟩) = S at *
  generalize (textT ⟨20, x, n⟩).isSome = B at *
  clear hsz hx
  go_enter Try.func18, Try.ntmps18
  go_wp2_with fail
  exact bodyPost_ret (v := .tuple #[.string ({ data := #[32] }), .bool true]) (by simp [results, Try.results18, go_sem]) rfl ⟨by rw [HE.out.1, HE.out.2], by
    (repeat (first | with_reducible exact Below.refl _ _ | with_reducible exact HB.out | with_reducible refine below_set ?_ (by first | (simp; done) | (simp; omega)) _ | with_reducible refine below_alloc ?_ _))⟩

set_option maxHeartbeats 2000000 in
theorem text_no_lo (k : Int) (x : List UInt8) (n : Int) (hx : x.length ≤ 100000) (h1 : ¬ k = 1) (h2 : ¬ k = 2) (h3 : ¬ k = 3) (h4 : ¬ k = 4) (h5 : ¬ k = 5) (h7 : ¬ k = 7) (h8 : ¬ k = 8) (h9 : ¬ k = 9) (h20 : ¬ k = 20) (h19 : ¬ k = 19) (h10 : ¬ k = 10) (h11 : ¬ k = 11) (h12 : ¬ k = 12) (h13 : ¬ k = 13) (h14 : ¬ k = 14) (h15 : ¬ k = 15) (h16 : ¬ k = 16) (h17 : ¬ k = 17) (h18 : ¬ k = 18) (hlo : ¬ 10 ≤ k) (w : World) (hg : Gm w) :
    Calls Try.prog 18 #[(⟨k, x, n⟩ : Tk).val] w fun e w' => e = .returned (.tuple #[.string (strOf (tx ⟨k, x, n⟩)), .bool (textT ⟨k, x, n⟩).isSome]) ∧ Below w.heap.size w w' := by
  have hsz := strOf_size x
  have HE : Hid (strOf (tx ⟨k, x, n⟩) = { data := #[] } ∧ (textT ⟨k, x, n⟩).isSome = false) := Lib.hid (by have h : textT ⟨k, x, n⟩ = none := by { unfold textT; simp only [h1, h2, h3, h4, h5, h7, h8, h9, h20, h19, if_false, or_self]; exact if_neg (by omega) }; unfold tx; rw [h]; exact ⟨rfl, rfl⟩)
  unfold Tk.val
  generalize hX : strOf x = X at *
  have hXs : X.size ≤ 100000 := by rw [hsz]; exact hx
  dsimp only
  generalize strOf (tx ⟨k, x, n⟩) = S at *
  generalize (textT ⟨k, x, n⟩).isSome = B at *
  clear hsz hx
  have e1 : (k == 1) = false := beq_false_of_ne h1
  have e2 : (k == 2) = false := beq_false_of_ne h2
  have e3 : (k == 3) = false := beq_false_of_ne h3
  have e4 : (k == 4) = false := beq_false_of_ne h4
  have e5 : (k == 5) = false := beq_false_of_ne h5
  have e7 : (k == 7) = false := beq_false_of_ne h7
  have e8 : (k == 8) = false := beq_false_of_ne h8
  have e9 : (k == 9) = false := beq_false_of_ne h9
  have e20 : (k == 20) = false := beq_false_of_ne h20
  have e19 : (k == 19) = false := beq_false_of_ne h19
  have e10 : (k == 10) = false := beq_false_of_ne h10
  have e11 : (k == 11) = false := beq_false_of_ne h11
  have e12 : (k == 12) = false := beq_false_of_ne h12
  have e13 : (k == 13) = false := beq_false_of_ne h13
  have e14 : (k == 14) = false := beq_false_of_ne h14
  have e15 : (k == 15) = false := beq_false_of_ne h15
  have e16 : (k == 16) = false := beq_false_of_ne h16
  have e17 : (k == 17) = false := beq_false_of_ne h17
  have e18 : (k == 18) = false := beq_false_of_ne h18
  have d1 : decide ((10 : Int) ≤ k) = false := decide_eq_false hlo
  clear h1 h2 h3 h4 h5 h7 h8 h9 h20 h19 h10 h11 h12 h13 h14 h15 h16 h17 h18
  go_enter Try.func18, Try.ntmps18
  go_wp2_with fail
  exact bodyPost_ret (v := .tuple #[.string ({ data := #[] }), .bool false]) (by simp [results, Try.results18, go_sem]) rfl ⟨by rw [HE.out.1, HE.out.2], by
    (repeat (first | with_reducible exact Below.refl _ _ | with_reducible exact HB.out | with_reducible refine below_set ?_ (by first | (simp; done) | (simp; omega)) _ | with_reducible refine below_alloc ?_ _))⟩

set_option maxHeartbeats 2000000 in
theorem text_no_hi (k : Int) (x : List UInt8) (n : Int) (hx : x.length ≤ 100000) (h1 : ¬ k = 1) (h2 : ¬ k = 2) (h3 : ¬ k = 3) (h4 : ¬ k = 4) (h5 : ¬ k = 5) (h7 : ¬ k = 7) (h8 : ¬ k = 8) (h9 : ¬ k = 9) (h20 : ¬ k = 20) (h19 : ¬ k = 19) (h10 : ¬ k = 10) (h11 : ¬ k = 11) (h12 : ¬ k = 12) (h13 : ¬ k = 13) (h14 : ¬ k = 14) (h15 : ¬ k = 15) (h16 : ¬ k = 16) (h17 : ¬ k = 17) (h18 : ¬ k = 18) (hlo : 10 ≤ k) (w : World) (hg : Gm w) :
    Calls Try.prog 18 #[(⟨k, x, n⟩ : Tk).val] w fun e w' => e = .returned (.tuple #[.string (strOf (tx ⟨k, x, n⟩)), .bool (textT ⟨k, x, n⟩).isSome]) ∧ Below w.heap.size w w' := by
  have hsz := strOf_size x
  have HE : Hid (strOf (tx ⟨k, x, n⟩) = { data := #[] } ∧ (textT ⟨k, x, n⟩).isSome = false) := Lib.hid (by have h : textT ⟨k, x, n⟩ = none := by { unfold textT; simp only [h1, h2, h3, h4, h5, h7, h8, h9, h20, h19, if_false, or_self]; exact if_neg (by omega) }; unfold tx; rw [h]; exact ⟨rfl, rfl⟩)
  unfold Tk.val
  generalize hX : strOf x = X at *
  have hXs : X.size ≤ 100000 := by rw [hsz]; exact hx
  dsimp only
  generalize strOf (tx ⟨k, x, n⟩) = S at *
  generalize (textT ⟨k, x, n⟩).isSome = B at *
  clear hsz hx
  have e1 : (k == 1) = false := beq_false_of_ne h1
  have e2 : (k == 2) = false := beq_false_of_ne h2
  have e3 : (k == 3) = false := beq_false_of_ne h3
  have e4 : (k == 4) = false := beq_false_of_ne h4
  have e5 : (k == 5) = false := beq_false_of_ne h5
  have e7 : (k == 7) = false := beq_false_of_ne h7
  have e8 : (k == 8) = false := beq_false_of_ne h8
  have e9 : (k == 9) = false := beq_false_of_ne h9
  have e20 : (k == 20) = false := beq_false_of_ne h20
  have e19 : (k == 19) = false := beq_false_of_ne h19
  have e10 : (k == 10) = false := beq_false_of_ne h10
  have e11 : (k == 11) = false := beq_false_of_ne h11
  have e12 : (k == 12) = false := beq_false_of_ne h12
  have e13 : (k == 13) = false := beq_false_of_ne h13
  have e14 : (k == 14) = false := beq_false_of_ne h14
  have e15 : (k == 15) = false := beq_false_of_ne h15
  have e16 : (k == 16) = false := beq_false_of_ne h16
  have e17 : (k == 17) = false := beq_false_of_ne h17
  have e18 : (k == 18) = false := beq_false_of_ne h18
  have d1 : decide ((10 : Int) ≤ k) = true := decide_eq_true hlo
  have d2 : decide (k ≤ (18 : Int)) = false := decide_eq_false (by omega)
  clear h1 h2 h3 h4 h5 h7 h8 h9 h20 h19 h10 h11 h12 h13 h14 h15 h16 h17 h18
  go_enter Try.func18, Try.ntmps18
  go_wp2_with fail
  exact bodyPost_ret (v := .tuple #[.string ({ data := #[] }), .bool false]) (by simp [results, Try.results18, go_sem]) rfl ⟨by rw [HE.out.1, HE.out.2], by
    (repeat (first | with_reducible exact Below.refl _ _ | with_reducible exact HB.out | with_reducible refine below_set ?_ (by first | (simp; done) | (simp; omega)) _ | with_reducible refine below_alloc ?_ _))⟩

theorem text_any (t : Tk) (hx : t.x.length ≤ 100000) (w : World) (hg : Gm w) :
    Calls Try.prog 18 #[t.val] w fun e w' => e = .returned (.tuple #[.string (strOf (tx t)), .bool (textT t).isSome]) ∧ Below w.heap.size w w' := by
  obtain ⟨k, x, n⟩ := t
  by_cases h1 : k = 1
  · subst h1; exact text_1 x n hx w hg
  by_cases h2 : k = 2
  · subst h2; exact text_2 x n hx w hg
  by_cases h3 : k = 3
  · subst h3; exact text_3 x n hx w hg
  by_cases h4 : k = 4
  · subst h4; exact text_4 x n hx w hg
  by_cases h5 : k = 5
  · subst h5
    cases h34 : x.any (fun c => decide (c.toNat = 34)) with
    | true => exact text_5_39 x n hx h34 w hg
    | false => exact text_5_34 x n hx h34 w hg
  by_cases h7 : k = 7
  · subst h7; exact text_7 x n hx w hg
  by_cases h8 : k = 8
  · subst h8; exact text_8 x n hx w hg
  by_cases h9 : k = 9
  · subst h9; exact text_9 x n hx w hg
  by_cases h20 : k = 20
  · subst h20; exact text_20 x n hx w hg
  by_cases h19 : k = 19
  · subst h19; exact text_19 x n hx w hg
  by_cases h10 : k = 10
  · subst h10; exact text_10 x n hx w hg
  by_cases h11 : k = 11
  · subst h11; exact text_11 x n hx w hg
  by_cases h12 : k = 12
  · subst h12; exact text_12 x n hx w hg
  by_cases h13 : k = 13
  · subst h13; exact text_13 x n hx w hg
  by_cases h14 : k = 14
  · subst h14; exact text_14 x n hx w hg
  by_cases h15 : k = 15
  · subst h15; exact text_15 x n hx w hg
  by_cases h16 : k = 16
  · subst h16; exact text_16 x n hx w hg
  by_cases h17 : k = 17
  · subst h17; exact text_17 x n hx w hg
  by_cases h18 : k = 18
  · subst h18; exact text_18 x n hx w hg
  by_cases hlo : 10 ≤ k
  · exact text_no_hi k x n hx h1 h2 h3 h4 h5 h7 h8 h9 h20 h19 h10 h11 h12 h13 h14 h15 h16 h17 h18 hlo w hg
  · exact text_no_lo k x n hx h1 h2 h3 h4 h5 h7 h8 h9 h20 h19 h10 h11 h12 h13 h14 h15 h16 h17 h18 hlo w hg

set_option maxHeartbeats 2000000 in
theorem Rtext_1 (x : List UInt8) (n : Int) (hx : x.length ≤ 100000) (w : World) :
    Calls Try.prog 20 #[(⟨1, x, n⟩ : Tk).val] w fun e w' => e = .returned (.tuple #[.string (strOf (tx ⟨1, x, n⟩)), .bool (textT ⟨1, x, n⟩).isSome]) ∧ Below w.heap.size w w' := by
  have hsz := strOf_size x
  have HE : Hid (strOf (tx ⟨1, x, n⟩) = strOf x ∧ (textT ⟨1, x, n⟩).isSome = true) := Lib.hid (by exact ⟨rfl, rfl⟩)
  unfold Tk.val
  generalize hX : strOf x = X at *
  have hXs : X.size ≤ 100000 := by rw [hsz]; exact hx
  dsimp only
  generalize strOf (tx ⟨1, x, n⟩) = S at *
  generalize (textT ⟨1, x, n⟩).isSome = B at *
  clear hsz hx
  go_enter Try.func20, Try.ntmps20
  go_wp2_with fail
  exact bodyPost_ret (v := .tuple #[.string (X), .bool true]) (by simp [results, Try.results20, go_sem]) rfl ⟨by rw [HE.out.1, HE.out.2], by
    (repeat (first | with_reducible exact Below.refl _ _ | with_reducible exact HB.out | with_reducible refine below_set ?_ (by first | (simp; done) | (simp; omega)) _ | with_reducible refine below_alloc ?_ _))⟩

set_option maxHeartbeats 2000000 in
theorem Rtext_19 (x : List UInt8) (n : Int) (hx : x.length ≤ 100000) (w : World) :
    Calls Try.prog 20 #[(⟨19, x, n⟩ : Tk).val] w fun e w' => e = .returned (.tuple #[.string (strOf (tx ⟨19, x, n⟩)), .bool (textT ⟨19, x, n⟩).isSome]) ∧ Below w.heap.size w w' := by
  have hsz := strOf_size x
  have HE : Hid (strOf (tx ⟨19, x, n⟩) = strOf x ∧ (textT ⟨19, x, n⟩).isSome = true) := Lib.hid (by exact ⟨rfl, rfl⟩)
  unfold Tk.val
  generalize hX : strOf x = X at *
  have hXs : X.size ≤ 100000 := by rw [hsz]; exact hx
  dsimp only
  generalize strOf (tx ⟨19, x, n⟩) = S at *
  generalize (textT ⟨19, x, n⟩).isSome = B at *
  clear hsz hx
  go_enter Try.func20, Try.ntmps20
  go_wp2_with fail
  exact bodyPost_ret (v := .tuple #[.string (X), .bool true]) (by simp [results, Try.results20, go_sem]) rfl ⟨by rw [HE.out.1, HE.out.2], by
    (repeat (first | with_reducible exact Below.refl _ _ | with_reducible exact HB.out | with_reducible refine below_set ?_ (by first | (simp; done) | (simp; omega)) _ | with_reducible refine below_alloc ?_ _))⟩

set_option maxHeartbeats 2000000 in
theorem Rtext_2 (x : List UInt8) (n : Int) (hx : x.length ≤ 100000) (w : World) :
    Calls Try.prog 20 #[(⟨2, x, n⟩ : Tk).val] w fun e w' => e = .returned (.tuple #[.string (strOf (tx ⟨2, x, n⟩)), .bool (textT ⟨2, x, n⟩).isSome]) ∧ Below w.heap.size w w' := by
  have hsz := strOf_size x
  have HE : Hid (strOf (tx ⟨2, x, n⟩) = strOf x ++ { data := #[40] } ∧ (textT ⟨2, x, n⟩).isSome = true) := Lib.hid (by exact ⟨strOf_app x [40], rfl⟩)
  unfold Tk.val
  generalize hX : strOf x = X at *
  have hXs : X.size ≤ 100000 := by rw [hsz]; exact hx
  dsimp only
  generalize strOf (tx ⟨2, x, n⟩) = S at *
  generalize (textT ⟨2, x, n⟩).isSome = B at *
  clear hsz hx
  go_enter Try.func20, Try.ntmps20
  go_wp2_with fail
  exact bodyPost_ret (v := .tuple #[.string (X ++ { data := #[40] }), .bool true]) (by simp [results, Try.results20, go_sem]) rfl ⟨by rw [HE.out.1, HE.out.2], by
    (repeat (first | with_reducible exact Below.refl _ _ | with_reducible exact HB.out | with_reducible refine below_set ?_ (by first | (simp; done) | (simp; omega)) _ | with_reducible refine below_alloc ?_ _))⟩

set_option maxHeartbeats 2000000 in
theorem Rtext_3 (x : List UInt8) (n : Int) (hx : x.length ≤ 100000) (w : World) :
    Calls Try.prog 20 #[(⟨3, x, n⟩ : Tk).val] w fun e w' => e = .returned (.tuple #[.string (strOf (tx ⟨3, x, n⟩)), .bool (textT ⟨3, x, n⟩).isSome]) ∧ Below w.heap.size w w' := by
  have hsz := strOf_size x
  have HE : Hid (strOf (tx ⟨3, x, n⟩) = { data := #[64] } ++ strOf x ∧ (textT ⟨3, x, n⟩).isSome = true) := Lib.hid (by exact ⟨strOf_app [64] x, rfl⟩)
  unfold Tk.val
  generalize hX : strOf x = X at *
  have hXs : X.size ≤ 100000 := by rw [hsz]; exact hx
  dsimp only
  generalize strOf (tx ⟨3, x, n⟩) = S at *
  generalize (textT ⟨3, x, n⟩).isSome = B at *
  clear hsz hx
  go_enter Try.func20, Try.ntmps20
  go_wp2_with fail
  exact bodyPost_ret (v := .tuple #[.string ({ data := #[64] } ++ X), .bool true]) (by simp [results, Try.results20, go_sem]) rfl ⟨by rw [HE.out.1, HE.out.2], by
    (repeat (first | with_reducible exact Below.refl _ _ | with_reducible exact HB.out | with_reducible refine below_set ?_ (by first | (simp; done) | (simp; omega)) _ | with_reducible refine below_alloc ?_ _))⟩

set_option maxHeartbeats 2000000 in
theorem Rtext_4 (x : List UInt8) (n : Int) (hx : x.length ≤ 100000) (w : World) :
    Calls Try.prog 20 #[(⟨4, x, n⟩ : Tk).val] w fun e w' => e = .returned (.tuple #[.string (strOf (tx ⟨4, x, n⟩)), .bool (textT ⟨4, x, n⟩).isSome]) ∧ Below w.heap.size w w' := by
  have hsz := strOf_size x
  have HE : Hid (strOf (tx ⟨4, x, n⟩) = { data := #[35] } ++ strOf x ∧ (textT ⟨4, x, n⟩).isSome = true) := Lib.hid (by exact ⟨strOf_app [35] x, rfl⟩)
  unfold Tk.val
  generalize hX : strOf x = X at *
  have hXs : X.size ≤ 100000 := by rw [hsz]; exact hx
  dsimp only
  generalize strOf (tx ⟨4, x, n⟩) = S at *
  generalize (textT ⟨4, x, n⟩).isSome = B at *
  clear hsz hx
  go_enter Try.func20, Try.ntmps20
  go_wp2_with fail
  exact bodyPost_ret (v := .tuple #[.string ({ data := #[35] } ++ X), .bool true]) (by simp [results, Try.results20, go_sem]) rfl ⟨by rw [HE.out.1, HE.out.2], by
    (repeat (first | with_reducible exact Below.refl _ _ | with_reducible exact HB.out | with_reducible refine below_set ?_ (by first | (simp; done) | (simp; omega)) _ | with_reducible refine below_alloc ?_ _))⟩

set_option maxHeartbeats 2000000 in
theorem Rtext_5_39 (x : List UInt8) (n : Int) (hx : x.length ≤ 100000) (h34 : x.any (fun c => decide (c.toNat = 34)) = true) (w : World) :
    Calls Try.prog 20 #[(⟨5, x, n⟩ : Tk).val] w fun e w' => e = .returned (.tuple #[.string (strOf (tx ⟨5, x, n⟩)), .bool (textT ⟨5, x, n⟩).isSome]) ∧ Below w.heap.size w w' := by
  have hsz := strOf_size x
  have HE : Hid (strOf (tx ⟨5, x, n⟩) = { data := #[39] } ++ strOf x ++ { data := #[39] } ∧ (textT ⟨5, x, n⟩).isSome = true) := Lib.hid (by rw [show ({ data := #[39] } ++ strOf x ++ { data := #[39] } : ByteArray) = strOf ([39] ++ x ++ [39]) by rw [strOf_app, strOf_app]; rfl]; refine ⟨?_, rfl⟩; show strOf (quoteB x :: (x ++ [quoteB x])) = _; unfold quoteB; rw [h34]; rfl)
  unfold Tk.val
  generalize hX : strOf x = X at *
  have hXs : X.size ≤ 100000 := by rw [hsz]; exact hx
  dsimp only
  generalize strOf (tx ⟨5, x, n⟩) = S at *
  generalize (textT ⟨5, x, n⟩).isSome = B at *
  clear hsz hx
  have hco := fun w => RHas34_any X (by unfold maxLen; omega) w
  have e34 : X.data.toList.any (fun c => decide (c.toNat = 34)) = true := by rw [← hX, strOf_data]; exact h34
  rw [e34] at hco
  clear e34 h34
  go_enter Try.func20, Try.ntmps20
  go_wp2_with fail
  refine (hco _).mono ?_; rintro e w2 ⟨rfl, rfl⟩
  go_wp2_with fail
  exact bodyPost_ret (v := .tuple #[.string ({ data := #[39] } ++ X ++ { data := #[39] }), .bool true]) (by simp [results, Try.results20, go_sem]) rfl ⟨by rw [HE.out.1, HE.out.2], by
    (repeat (first | with_reducible exact Below.refl _ _ | with_reducible exact HB.out | with_reducible refine below_set ?_ (by first | (simp; done) | (simp; omega)) _ | with_reducible refine below_alloc ?_ _))⟩

set_option maxHeartbeats 2000000 in
theorem Rtext_5_34 (x : List UInt8) (n : Int) (hx : x.length ≤ 100000) (h34 : x.any (fun c => decide (c.toNat = 34)) = false) (w : World) :
    Calls Try.prog 20 #[(⟨5, x, n⟩ : Tk).val] w fun e w' => e = .returned (.tuple #[.string (strOf (tx ⟨5, x, n⟩)), .bool (textT ⟨5, x, n⟩).isSome]) ∧ Below w.heap.size w w' := by
  have hsz := strOf_size x
  have HE : Hid (strOf (tx ⟨5, x, n⟩) = { data := #[34] } ++ strOf x ++ { data := #[34] } ∧ (textT ⟨5, x, n⟩).isSome = true) := Lib.hid (by rw [show ({ data := #[34] } ++ strOf x ++ { data := #[34] } : ByteArray) = strOf ([34] ++ x ++ [34]) by rw [strOf_app, strOf_app]; rfl]; refine ⟨?_, rfl⟩; show strOf (quoteB x :: (x ++ [quoteB x])) = _; unfold quoteB; rw [h34]; rfl)
  unfold Tk.val
  generalize hX : strOf x = X at *
  have hXs : X.size ≤ 100000 := by rw [hsz]; exact hx
  dsimp only
  generalize strOf (tx ⟨5, x, n⟩) = S at *
  generalize (textT ⟨5, x, n⟩).isSome = B at *
  clear hsz hx
  have hco := fun w => RHas34_any X (by unfold maxLen; omega) w
  have e34 : X.data.toList.any (fun c => decide (c.toNat = 34)) = false := by rw [← hX, strOf_data]; exact h34
  rw [e34] at hco
  clear e34 h34
  go_enter Try.func20, Try.ntmps20
  go_wp2_with fail
  refine (hco _).mono ?_; rintro e w2 ⟨rfl, rfl⟩
  go_wp2_with fail
  exact bodyPost_ret (v := .tuple #[.string ({ data := #[34] } ++ X ++ { data := #[34] }), .bool true]) (by simp [results, Try.results20, go_sem]) rfl ⟨by rw [HE.out.1, HE.out.2], by
    (repeat (first | with_reducible exact Below.refl _ _ | with_reducible exact HB.out | with_reducible refine below_set ?_ (by first | (simp; done) | (simp; omega)) _ | with_reducible refine below_alloc ?_ _))⟩

set_option maxHeartbeats 2000000 in
theorem Rtext_7 (x : List UInt8) (n : Int) (hx : x.length ≤ 100000) (w : World) :
    Calls Try.prog 20 #[(⟨7, x, n⟩ : Tk).val] w fun e w' => e = .returned (.tuple #[.string (strOf (tx ⟨7, x, n⟩)), .bool (textT ⟨7, x, n⟩).isSome]) ∧ Below w.heap.size w w' := by
  have hsz := strOf_size x
  have HE : Hid (strOf (tx ⟨7, x, n⟩) = strOfNums (prtI n) ∧ (textT ⟨7, x, n⟩).isSome = true) := Lib.hid (by exact ⟨(strOfNums_byt _).symm, rfl⟩)
  unfold Tk.val
  generalize hX : strOf x = X at *
  have hXs : X.size ≤ 100000 := by rw [hsz]; exact hx
  dsimp only
  generalize strOf (tx ⟨7, x, n⟩) = S at *
  generalize (textT ⟨7, x, n⟩).isSome = B at *
  clear hsz hx
  go_enter Try.func20, Try.ntmps20
  go_wp2_with fail
  refine (RPrint_any n _).mono ?_; rintro e w2 ⟨rfl, hb2⟩
  have HB := Lib.hid (below_then (below_alloc (Below.refl w.heap.size w) (.cells #[.int .i64 7, .string X, .int .i64 n] 23)) hb2)
  clear hb2
  go_wp2_with fail
  exact bodyPost_ret (v := .tuple #[.string (strOfNums (prtI n)), .bool true]) (by simp [results, Try.results20, go_sem]) rfl ⟨by rw [HE.out.1, HE.out.2], by
    (repeat (first | with_reducible exact Below.refl _ _ | with_reducible exact HB.out | with_reducible refine below_set ?_ (by first | (simp; done) | (simp; omega)) _ | with_reducible refine below_alloc ?_ _))⟩

set_option maxHeartbeats 2000000 in
theorem Rtext_8 (x : List UInt8) (n : Int) (hx : x.length ≤ 100000) (w : World) :
    Calls Try.prog 20 #[(⟨8, x, n⟩ : Tk).val] w fun e w' => e = .returned (.tuple #[.string (strOf (tx ⟨8, x, n⟩)), .bool (textT ⟨8, x, n⟩).isSome]) ∧ Below w.heap.size w w' := by
  have hsz := strOf_size x
  have HE : Hid (strOf (tx ⟨8, x, n⟩) = strOfNums (prtI n) ++ { data := #[37] } ∧ (textT ⟨8, x, n⟩).isSome = true) := Lib.hid (by rw [strOfNums_byt]; exact ⟨strOf_app _ [37], rfl⟩)
  unfold Tk.val
  generalize hX : strOf x = X at *
  have hXs : X.size ≤ 100000 := by rw [hsz]; exact hx
  dsimp only
  generalize strOf (tx ⟨8, x, n⟩) = S at *
  generalize (textT ⟨8, x, n⟩).isSome = B at *
  clear hsz hx
  have hns : (strOfNums (prtI n)).size ≤ 12 := by rw [strOfNums_byt, strOf_size]; exact prtI_short n
  go_enter Try.func20, Try.ntmps20
  go_wp2_with fail
  refine (RPrint_any n _).mono ?_; rintro e w2 ⟨rfl, hb2⟩
  have HB := Lib.hid (below_then (below_alloc (Below.refl w.heap.size w) (.cells #[.int .i64 8, .string X, .int .i64 n] 23)) hb2)
  clear hb2
  go_wp2_with fail
  exact bodyPost_ret (v := .tuple #[.string (strOfNums (prtI n) ++ { data := #[37] }), .bool true]) (by simp [results, Try.results20, go_sem]) rfl ⟨by rw [HE.out.1, HE.out.2], by
    (repeat (first | with_reducible exact Below.refl _ _ | with_reducible exact HB.out | with_reducible refine below_set ?_ (by first | (simp; done) | (simp; omega)) _ | with_reducible refine below_alloc ?_ _))⟩

set_option maxHeartbeats 2000000 in
theorem Rtext_9 (x : List UInt8) (n : Int) (hx : x.length ≤ 100000) (w : World) :
    Calls Try.prog 20 #[(⟨9, x, n⟩ : Tk).val] w fun e w' => e = .returned (.tuple #[.string (strOf (tx ⟨9, x, n⟩)), .bool (textT ⟨9, x, n⟩).isSome]) ∧ Below w.heap.size w w' := by
  have hsz := strOf_size x
  have HE : Hid (strOf (tx ⟨9, x, n⟩) = strOfNums (prtI n) ++ strOf x ∧ (textT ⟨9, x, n⟩).isSome = true) := Lib.hid (by rw [strOfNums_byt]; exact ⟨strOf_app _ x, rfl⟩)
  unfold Tk.val
  generalize hX : strOf x = X at *
  have hXs : X.size ≤ 100000 := by rw [hsz]; exact hx
  dsimp only
  generalize strOf (tx ⟨9, x, n⟩) = S at *
  generalize (textT ⟨9, x, n⟩).isSome = B at *
  clear hsz hx
  have hns : (strOfNums (prtI n)).size ≤ 12 := by rw [strOfNums_byt, strOf_size]; exact prtI_short n
  go_enter Try.func20, Try.ntmps20
  go_wp2_with fail
  refine wp_region_ext (by kernel_rfl) (by kernel_rfl) ?_
  repeat (go_big_quiet_step ((go_at_call 41; exact quiet_ext ((RPrint_any n _).mono fun e w' h => h))))
  refine wpQuiet_nil ?_
  rintro _ ⟨u, rfl⟩
  have HB := Lib.hid (below_to_ext (below_alloc (Below.refl w.heap.size w) (.cells #[.int .i64 9, .string X, .int .i64 n] 23)) u)
  go_wp2_with fail
  exact bodyPost_ret (v := .tuple #[.string (strOfNums (prtI n) ++ X), .bool true]) (by simp [results, Try.results20, go_sem]) rfl ⟨by rw [HE.out.1, HE.out.2], by
    (repeat (first | with_reducible exact Below.refl _ _ | with_reducible exact HB.out | with_reducible refine below_set ?_ (by first | (simp; done) | (simp; omega)) _ | with_reducible refine below_alloc ?_ _))⟩

set_option maxHeartbeats 2000000 in
theorem Rtext_10 (x : List UInt8) (n : Int) (hx : x.length ≤ 100000) (w : World) :
    Calls Try.prog 20 #[(⟨10, x, n⟩ : Tk).val] w fun e w' => e = .returned (.tuple #[.string (strOf (tx ⟨10, x, n⟩)), .bool (textT ⟨10, x, n⟩).isSome]) ∧ Below w.heap.size w w' := by
  have hsz := strOf_size x
  have HE : Hid (strOf (tx ⟨10, x, n⟩) = { data := #[58] } ∧ (textT ⟨10, x, n⟩).isSome = true) := Lib.hid (by exact ⟨rfl, rfl⟩)
  unfold Tk.val
  generalize hX : strOf x = X at *
  have hXs : X.size ≤ 100000 := by rw [hsz]; exact hx
  dsimp only
  generalize strOf (tx ⟨10, x, n⟩) = S at *
  generalize (textT ⟨10, x, n⟩).isSome = B at *
  clear hsz hx
  go_enter Try.func20, Try.ntmps20
  go_wp2_with fail
  exact bodyPost_ret (v := .tuple #[.string ({ data := #[58] }), .bool true]) (by simp [results, Try.results20, go_sem]) rfl ⟨by rw [HE.out.1, HE.out.2], by
    (repeat (first | with_reducible exact Below.refl _ _ | with_reducible exact HB.out | with_reducible refine below_set ?_ (by first | (simp; done) | (simp; omega)) _ | with_reducible refine below_alloc ?_ _))⟩

set_option maxHeartbeats 2000000 in
theorem Rtext_11 (x : List UInt8) (n : Int) (hx : x.length ≤ 100000) (w : World) :
    Calls Try.prog 20 #[(⟨11, x, n⟩ : Tk).val] w fun e w' => e = .returned (.tuple #[.string (strOf (tx ⟨11, x, n⟩)), .bool (textT ⟨11, x, n⟩).isSome]) ∧ Below w.heap.size w w' := by
  have hsz := strOf_size x
  have HE : Hid (strOf (tx ⟨11, x, n⟩) = { data := #[59] } ∧ (textT ⟨11, x, n⟩).isSome = true) := Lib.hid (by exact ⟨rfl, rfl⟩)
  unfold Tk.val
  generalize hX : strOf x = X at *
  have hXs : X.size ≤ 100000 := by rw [hsz]; exact hx
  dsimp only
  generalize strOf (tx ⟨11, x, n⟩) = S at *
  generalize (textT ⟨11, x, n⟩).isSome = B at *
  clear hsz hx
  go_enter Try.func20, Try.ntmps20
  go_wp2_with fail
  exact bodyPost_ret (v := .tuple #[.string ({ data := #[59] }), .bool true]) (by simp [results, Try.results20, go_sem]) rfl ⟨by rw [HE.out.1, HE.out.2], by
    (repeat (first | with_reducible exact Below.refl _ _ | with_reducible exact HB.out | with_reducible refine below_set ?_ (by first | (simp; done) | (simp; omega)) _ | with_reducible refine below_alloc ?_ _))⟩

set_option maxHeartbeats 2000000 in
theorem Rtext_12 (x : List UInt8) (n : Int) (hx : x.length ≤ 100000) (w : World) :
    Calls Try.prog 20 #[(⟨12, x, n⟩ : Tk).val] w fun e w' => e = .returned (.tuple #[.string (strOf (tx ⟨12, x, n⟩)), .bool (textT ⟨12, x, n⟩).isSome]) ∧ Below w.heap.size w w' := by
  have hsz := strOf_size x
  have HE : Hid (strOf (tx ⟨12, x, n⟩) = { data := #[44] } ∧ (textT ⟨12, x, n⟩).isSome = true) := Lib.hid (by exact ⟨rfl, rfl⟩)
  unfold Tk.val
  generalize hX : strOf x = X at *
  have hXs : X.size ≤ 100000 := by rw [hsz]; exact hx
  dsimp only
  generalize strOf (tx ⟨12, x, n⟩) = S at *
  generalize (textT ⟨12, x, n⟩).isSome = B at *
  clear hsz hx
  go_enter Try.func20, Try.ntmps20
  go_wp2_with fail
  exact bodyPost_ret (v := .tuple #[.string ({ data := #[44] }), .bool true]) (by simp [results, Try.results20, go_sem]) rfl ⟨by rw [HE.out.1, HE.out.2], by
    (repeat (first | with_reducible exact Below.refl _ _ | with_reducible exact HB.out | with_reducible refine below_set ?_ (by first | (simp; done) | (simp; omega)) _ | with_reducible refine below_alloc ?_ _))⟩

set_option maxHeartbeats 2000000 in
theorem Rtext_13 (x : List UInt8) (n : Int) (hx : x.length ≤ 100000) (w : World) :
    Calls Try.prog 20 #[(⟨13, x, n⟩ : Tk).val] w fun e w' => e = .returned (.tuple #[.string (strOf (tx ⟨13, x, n⟩)), .bool (textT ⟨13, x, n⟩).isSome]) ∧ Below w.heap.size w w' := by
  have hsz := strOf_size x
  have HE : Hid (strOf (tx ⟨13, x, n⟩) = { data := #[40] } ∧ (textT ⟨13, x, n⟩).isSome = true) := Lib.hid (by exact ⟨rfl, rfl⟩)
  unfold Tk.val
  generalize hX : strOf x = X at *
  have hXs : X.size ≤ 100000 := by rw [hsz]; exact hx
  dsimp only
  generalize strOf (tx ⟨13, x, n⟩) = S at *
  generalize (textT ⟨13, x, n⟩).isSome = B at *
  clear hsz hx
  go_enter Try.func20, Try.ntmps20
  go_wp2_with fail
  exact bodyPost_ret (v := .tuple #[.string ({ data := #[40] }), .bool true]) (by simp [results, Try.results20, go_sem]) rfl ⟨by rw [HE.out.1, HE.out.2], by
    (repeat (first | with_reducible exact Below.refl _ _ | with_reducible exact HB.out | with_reducible refine below_set ?_ (by first | (simp; done) | (simp; omega)) _ | with_reducible refine below_alloc ?_ _))⟩

set_option maxHeartbeats 2000000 in
theorem Rtext_14 (x : List UInt8) (n : Int) (hx : x.length ≤ 100000) (w : World) :
    Calls Try.prog 20 #[(⟨14, x, n⟩ : Tk).val] w fun e w' => e = .returned (.tuple #[.string (strOf (tx ⟨14, x, n⟩)), .bool (textT ⟨14, x, n⟩).isSome]) ∧ Below w.heap.size w w' := by
  have hsz := strOf_size x
  have HE : Hid (strOf (tx ⟨14, x, n⟩) = { data := #[41] } ∧ (textT ⟨14, x, n⟩).isSome = true) := Lib.hid (by exact ⟨rfl, rfl⟩)
  unfold Tk.val
  generalize hX : strOf x = X at *
  have hXs : X.size ≤ 100000 := by rw [hsz]; exact hx
  dsimp only
  generalize strOf (tx ⟨14, x, n⟩) = S at *
  generalize (textT ⟨14, x, n⟩).isSome = B at *
  clear hsz hx
  go_enter Try.func20, Try.ntmps20
  go_wp2_with fail
  exact bodyPost_ret (v := .tuple #[.string ({ data := #[41] }), .bool true]) (by simp [results, Try.results20, go_sem]) rfl ⟨by rw [HE.out.1, HE.out.2], by
    (repeat (first | with_reducible exact Below.refl _ _ | with_reducible exact HB.out | with_reducible refine below_set ?_ (by first | (simp; done) | (simp; omega)) _ | with_reducible refine below_alloc ?_ _))⟩

set_option maxHeartbeats 2000000 in
theorem Rtext_15 (x : List UInt8) (n : Int) (hx : x.length ≤ 100000) (w : World) :
    Calls Try.prog 20 #[(⟨15, x, n⟩ : Tk).val] w fun e w' => e = .returned (.tuple #[.string (strOf (tx ⟨15, x, n⟩)), .bool (textT ⟨15, x, n⟩).isSome]) ∧ Below w.heap.size w w' := by
  have hsz := strOf_size x
  have HE : Hid (strOf (tx ⟨15, x, n⟩) = { data := #[91] } ∧ (textT ⟨15, x, n⟩).isSome = true) := Lib.hid (by exact ⟨rfl, rfl⟩)
  unfold Tk.val
  generalize hX : strOf x = X at *
  have hXs : X.size ≤ 100000 := by rw [hsz]; exact hx
  dsimp only
  generalize strOf (tx ⟨15, x, n⟩) = S at *
  generalize (textT ⟨15, x, n⟩).isSome = B at *
  clear hsz hx
  go_enter Try.func20, Try.ntmps20
  go_wp2_with fail
  exact bodyPost_ret (v := .tuple #[.string ({ data := #[91] }), .bool true]) (by simp [results, Try.results20, go_sem]) rfl ⟨by rw [HE.out.1, HE.out.2], by
    (repeat (first | with_reducible exact Below.refl _ _ | with_reducible exact HB.out | with_reducible refine below_set ?_ (by first | (simp; done) | (simp; omega)) _ | with_reducible refine below_alloc ?_ _))⟩

set_option maxHeartbeats 2000000 in
theorem Rtext_16 (x : List UInt8) (n : Int) (hx : x.length ≤ 100000) (w : World) :
    Calls Try.prog 20 #[(⟨16, x, n⟩ : Tk).val] w fun e w' => e = .returned (.tuple #[.string (strOf (tx ⟨16, x, n⟩)), .bool (textT ⟨16, x, n⟩).isSome]) ∧ Below w.heap.size w w' := by
  have hsz := strOf_size x
  have HE : Hid (strOf (tx ⟨16, x, n⟩) = { data := #[93] } ∧ (textT ⟨16, x, n⟩).isSome = true) := Lib.hid (by exact ⟨rfl, rfl⟩)
  unfold Tk.val
  generalize hX : strOf x = X at *
  have hXs : X.size ≤ 100000 := by rw [hsz]; exact hx
  dsimp only
  generalize strOf (tx ⟨16, x, n⟩) = S at *
  generalize (textT ⟨16, x, n⟩).isSome = B at *
  clear hsz hx
  go_enter Try.func20, Try.ntmps20
  go_wp2_with fail
  exact bodyPost_ret (v := .tuple #[.string ({ data := #[93] }), .bool true]) (by simp [results, Try.results20, go_sem]) rfl ⟨by rw [HE.out.1, HE.out.2], by
    (repeat (first | with_reducible exact Below.refl _ _ | with_reducible exact HB.out | with_reducible refine below_set ?_ (by first | (simp; done) | (simp; omega)) _ | with_reducible refine below_alloc ?_ _))⟩

set_option maxHeartbeats 2000000 in
theorem Rtext_17 (x : List UInt8) (n : Int) (hx : x.length ≤ 100000) (w : World) :
    Calls Try.prog 20 #[(⟨17, x, n⟩ : Tk).val] w fun e w' => e = .returned (.tuple #[.string (strOf (tx ⟨17, x, n⟩)), .bool (textT ⟨17, x, n⟩).isSome]) ∧ Below w.heap.size w w' := by
  have hsz := strOf_size x
  have HE : Hid (strOf (tx ⟨17, x, n⟩) = { data := #[123] } ∧ (textT ⟨17, x, n⟩).isSome = true) := Lib.hid (by exact ⟨rfl, rfl⟩)
  unfold Tk.val
  generalize hX : strOf x = X at *
  have hXs : X.size ≤ 100000 := by rw [hsz]; exact hx
  dsimp only
  generalize strOf (tx ⟨17, x, n⟩) = S at *
  generalize (textT ⟨17, x, n⟩).isSome = B at *
  clear hsz hx
  go_enter Try.func20, Try.ntmps20
  go_wp2_with fail
  exact bodyPost_ret (v := .tuple #[.string ({ data := #[123] }), .bool true]) (by simp [results, Try.results20, go_sem]) rfl ⟨by rw [HE.out.1, HE.out.2], by
    (repeat (first | with_reducible exact Below.refl _ _ | with_reducible exact HB.out | with_reducible refine below_set ?_ (by first | (simp; done) | (simp; omega)) _ | with_reducible refine below_alloc ?_ _))⟩

set_option maxHeartbeats 2000000 in
theorem Rtext_18 (x : List UInt8) (n : Int) (hx : x.length ≤ 100000) (w : World) :
    Calls Try.prog 20 #[(⟨18, x, n⟩ : Tk).val] w fun e w' => e = .returned (.tuple #[.string (strOf (tx ⟨18, x, n⟩)), .bool (textT ⟨18, x, n⟩).isSome]) ∧ Below w.heap.size w w' := by
  have hsz := strOf_size x
  have HE : Hid (strOf (tx ⟨18, x, n⟩) = { data := #[125] } ∧ (textT ⟨18, x, n⟩).isSome = true) := Lib.hid (by exact ⟨rfl, rfl⟩)
  unfold Tk.val
  generalize hX : strOf x = X at *
  have hXs : X.size ≤ 100000 := by rw [hsz]; exact hx
  dsimp only
  generalize strOf (tx ⟨18, x, n⟩) = S at *
  generalize (textT ⟨18, x, n⟩).isSome = B at *
  clear hsz hx
  go_enter Try.func20, Try.ntmps20
  go_wp2_with fail
  exact bodyPost_ret (v := .tuple #[.string ({ data := #[125] }), .bool true]) (by simp [results, Try.results20, go_sem]) rfl ⟨by rw [HE.out.1, HE.out.2], by
    (repeat (first | with_reducible exact Below.refl _ _ | with_reducible exact HB.out | with_reducible refine below_set ?_ (by first | (simp; done) | (simp; omega)) _ | with_reducible refine below_alloc ?_ _))⟩

set_option maxHeartbeats 2000000 in
theorem Rtext_20 (x : List UInt8) (n : Int) (hx : x.length ≤ 100000) (w : World) :
    Calls Try.prog 20 #[(⟨20, x, n⟩ : Tk).val] w fun e w' => e = .returned (.tuple #[.string (strOf (tx ⟨20, x, n⟩)), .bool (textT ⟨20, x, n⟩).isSome]) ∧ Below w.heap.size w w' := by
  have hsz := strOf_size x
  have HE : Hid (strOf (tx ⟨20, x, n⟩) = { data := #[32] } ∧ (textT ⟨20, x, n⟩).isSome = true) := Lib.hid (by exact ⟨rfl, rfl⟩)
  unfold Tk.val
  generalize hX : strOf x = X at *
  have hXs : X.size ≤ 100000 := by rw [hsz]; exact hx
  dsimp only
  generalize strOf (tx ⟨20, x, n⟩) = S at *
  generalize (textT ⟨20, x, n⟩).isSome = B at *
  clear hsz hx
  go_enter Try.func20, Try.ntmps20
  go_wp2_with fail
  exact bodyPost_ret (v := .tuple #[.string ({ data := #[32] }), .bool true]) (by simp [results, Try.results20, go_sem]) rfl ⟨by rw [HE.out.1, HE.out.2], by
    (repeat (first | with_reducible exact Below.refl _ _ | with_reducible exact HB.out | with_reducible refine below_set ?_ (by first | (simp; done) | (simp; omega)) _ | with_reducible refine below_alloc ?_ _))⟩

set_option maxHeartbeats 2000000 in
theorem Rtext_no (k : Int) (x : List UInt8) (n : Int) (hx : x.length ≤ 100000) (h1 : ¬ k = 1) (h2 : ¬ k = 2) (h3 : ¬ k = 3) (h4 : ¬ k = 4) (h5 : ¬ k = 5) (h7 : ¬ k = 7) (h8 : ¬ k = 8) (h9 : ¬ k = 9) (h20 : ¬ k = 20) (h19 : ¬ k = 19) (h10 : ¬ k = 10) (h11 : ¬ k = 11) (h12 : ¬ k = 12) (h13 : ¬ k = 13) (h14 : ¬ k = 14) (h15 : ¬ k = 15) (h16 : ¬ k = 16) (h17 : ¬ k = 17) (h18 : ¬ k = 18) (w : World) :
    Calls Try.prog 20 #[(⟨k, x, n⟩ : Tk).val] w fun e w' => e = .returned (.tuple #[.string (strOf (tx ⟨k, x, n⟩)), .bool (textT ⟨k, x, n⟩).isSome]) ∧ Below w.heap.size w w' := by
  have hsz := strOf_size x
  have HE : Hid (strOf (tx ⟨k, x, n⟩) = { data := #[] } ∧ (textT ⟨k, x, n⟩).isSome = false) := Lib.hid (by have h : textT ⟨k, x, n⟩ = none := by { unfold textT; simp only [h1, h2, h3, h4, h5, h7, h8, h9, h20, h19, if_false, or_self]; exact if_neg (by omega) }; unfold tx; rw [h]; exact ⟨rfl, rfl⟩)
  unfold Tk.val
  generalize hX : strOf x = X at *
  have hXs : X.size ≤ 100000 := by rw [hsz]; exact hx
  dsimp only
  generalize strOf (tx ⟨k, x, n⟩) = S at *
  generalize (textT ⟨k, x, n⟩).isSome = B at *
  clear hsz hx
  have e1 : (k == 1) = false := beq_false_of_ne h1
  have e2 : (k == 2) = false := beq_false_of_ne h2
  have e3 : (k == 3) = false := beq_false_of_ne h3
  have e4 : (k == 4) = false := beq_false_of_ne h4
  have e5 : (k == 5) = false := beq_false_of_ne h5
  have e7 : (k == 7) = false := beq_false_of_ne h7
  have e8 : (k == 8) = false := beq_false_of_ne h8
  have e9 : (k == 9) = false := beq_false_of_ne h9
  have e20 : (k == 20) = false := beq_false_of_ne h20
  have e19 : (k == 19) = false := beq_false_of_ne h19
  have e10 : (k == 10) = false := beq_false_of_ne h10
  have e11 : (k == 11) = false := beq_false_of_ne h11
  have e12 : (k == 12) = false := beq_false_of_ne h12
  have e13 : (k == 13) = false := beq_false_of_ne h13
  have e14 : (k == 14) = false := beq_false_of_ne h14
  have e15 : (k == 15) = false := beq_false_of_ne h15
  have e16 : (k == 16) = false := beq_false_of_ne h16
  have e17 : (k == 17) = false := beq_false_of_ne h17
  have e18 : (k == 18) = false := beq_false_of_ne h18
  clear h1 h2 h3 h4 h5 h7 h8 h9 h20 h19 h10 h11 h12 h13 h14 h15 h16 h17 h18
  go_enter Try.func20, Try.ntmps20
  go_wp2_with fail
  exact bodyPost_ret (v := .tuple #[.string ({ data := #[] }), .bool false]) (by simp [results, Try.results20, go_sem]) rfl ⟨by rw [HE.out.1, HE.out.2], by
    (repeat (first | with_reducible exact Below.refl _ _ | with_reducible exact HB.out | with_reducible refine below_set ?_ (by first | (simp; done) | (simp; omega)) _ | with_reducible refine below_alloc ?_ _))⟩

theorem Rtext_any (t : Tk) (hx : t.x.length ≤ 100000) (w : World) :
    Calls Try.prog 20 #[t.val] w fun e w' => e = .returned (.tuple #[.string (strOf (tx t)), .bool (textT t).isSome]) ∧ Below w.heap.size w w' := by
  obtain ⟨k, x, n⟩ := t
  by_cases h1 : k = 1
  · subst h1; exact Rtext_1 x n hx w
  by_cases h2 : k = 2
  · subst h2; exact Rtext_2 x n hx w
  by_cases h3 : k = 3
  · subst h3; exact Rtext_3 x n hx w
  by_cases h4 : k = 4
  · subst h4; exact Rtext_4 x n hx w
  by_cases h5 : k = 5
  · subst h5
    cases h34 : x.any (fun c => decide (c.toNat = 34)) with
    | true => exact Rtext_5_39 x n hx h34 w
    | false => exact Rtext_5_34 x n hx h34 w
  by_cases h7 : k = 7
  · subst h7; exact Rtext_7 x n hx w
  by_cases h8 : k = 8
  · subst h8; exact Rtext_8 x n hx w
  by_cases h9 : k = 9
  · subst h9; exact Rtext_9 x n hx w
  by_cases h20 : k = 20
  · subst h20; exact Rtext_20 x n hx w
  by_cases h19 : k = 19
  · subst h19; exact Rtext_19 x n hx w
  by_cases h10 : k = 10
  · subst h10; exact Rtext_10 x n hx w
  by_cases h11 : k = 11
  · subst h11; exact Rtext_11 x n hx w
  by_cases h12 : k = 12
  · subst h12; exact Rtext_12 x n hx w
  by_cases h13 : k = 13
  · subst h13; exact Rtext_13 x n hx w
  by_cases h14 : k = 14
  · subst h14; exact Rtext_14 x n hx w
  by_cases h15 : k = 15
  · subst h15; exact Rtext_15 x n hx w
  by_cases h16 : k = 16
  · subst h16; exact Rtext_16 x n hx w
  by_cases h17 : k = 17
  · subst h17; exact Rtext_17 x n hx w
  by_cases h18 : k = 18
  · subst h18; exact Rtext_18 x n hx w
  exact Rtext_no k x n hx h1 h2 h3 h4 h5 h7 h8 h9 h20 h19 h10 h11 h12 h13 h14 h15 h16 h17 h18 w

end Go.Proofs.Ytmicgfpiknibhaa
