/- The lexer passes a comment. -/
import Derived.Test.YtmicgfpiknibhaaLexShelf
import Derived.Test.YtmicgfpiknibhaaLexPut
namespace Go.Proofs.Ytmicgfpiknibhaa
open Go.RowKit
set_option linter.unusedSimpArgs false
set_option linter.unusedVariables false
attribute [local go_sem] cell?_ext frozen?_ext lt_size_ext

/-- A variable of the library holds some number. -/
def Gm (w : World) : Prop := ∃ m : Int, w.cell? ⟨0, 0, none⟩ = some (.int .i64 m)
theorem Gm.below {w w' : World} {n : Nat} (h : Gm w) (hb : Below n w w') (hn : 0 < n) : Gm w' := by
  obtain ⟨m, hm⟩ := h
  exact ⟨m, (hb.cell (p := ⟨0, 0, none⟩) hn).trans hm⟩
theorem Gm.lt {w : World} (h : Gm w) : 0 < w.heap.size := by
  obtain ⟨m, hm⟩ := h
  exact World.block_lt_of_cell? w _ hm
theorem Gm.then_ {w w' : World} (h : Gm w) (hb : Below w.heap.size w w') : Gm w' := h.below hb h.lt
theorem Gm.keeps {w w' : World} {r : Nat} (h : Gm w) (hk : Keeps (fun i => i = r) w w') (hr : 0 < r) : Gm w' := by
  obtain ⟨m, hm⟩ := h
  exact ⟨m, (hk.cell (p := ⟨0, 0, none⟩) (World.block_lt_of_cell? w _ hm) (by show ¬ 0 = r; omega)).trans hm⟩

theorem pre_two (c : UInt8) (l : List UInt8) : [42, 47].isPrefixOf (c :: l) = (decide (c.toNat = 42) && heads 47 l) := by
  have e : ∀ (n : Nat) (x : UInt8), n < 256 → (UInt8.ofNat n == x) = decide (x.toNat = n) := fun n x hn => by
    rw [Bool.eq_iff_iff, beq_iff_eq, decide_eq_true_eq]
    refine ⟨fun h => by rw [← h]; simp; try omega, fun h => by rw [← h]; simp⟩
  have e1 := e 42 c (by decide)
  cases l with
  | nil => simp [List.isPrefixOf, heads]
  | cons d t =>
    have e2 := e 47 d (by decide)
    show ((42 : UInt8) == c && ((47 : UInt8) == d && true)) = _
    rw [show (42 : UInt8) = UInt8.ofNat 42 from rfl, show (47 : UInt8) = UInt8.ofNat 47 from rfl, e1, e2, Bool.and_true]
    rfl
theorem behind_index : ∀ l : List UInt8, (∃ i : Nat, Lib.index l [42, 47] = (i : Int) ∧ behind l = i + 2) ∨ (Lib.index l [42, 47] = -1 ∧ behind l = l.length)
  | [] => .inr ⟨by decide, rfl⟩
  | c :: t => by
    rw [Lib.index, pre_two, behind]
    by_cases h : c.toNat = 42 ∧ heads 47 t = true
    · rw [if_pos h, decide_eq_true h.1, h.2]
      exact .inl ⟨0, rfl, rfl⟩
    · have e : (decide (c.toNat = 42) && heads 47 t) = false := by
        by_cases h1 : c.toNat = 42
        · rw [decide_eq_true h1, Bool.true_and]; cases hh : heads 47 t with
          | false => rfl
          | true => exact absurd ⟨h1, hh⟩ h
        · rw [decide_eq_false h1, Bool.false_and]
      rw [if_neg h, e]
      rcases behind_index t with ⟨i, h1, h2⟩ | ⟨h1, h2⟩
      · rw [h1, h2]
        exact .inl ⟨i + 1, by rw [if_neg (by simp), if_neg (by simp)]; rfl, by omega⟩
      · rw [h1, h2]
        exact .inr ⟨by decide, by simp⟩

set_option maxHeartbeats 1000000 in
theorem pass_any (s : ByteArray) (r a : Nat) (v : Value) (w : World) (hs0 : s.size ≤ 1000000) (ha : a ≤ s.size) (hg : Gm w) (hr0 : 0 < r) (hB : Lx w r s a v) :
    Calls Try.prog 35 #[.pointer (some ⟨r, 0, none⟩), .string { data := #[42, 47] }] w fun e w' => e = .returned (.tuple #[]) ∧ Lx w' r s (a + behind (s.data.toList.drop a)) v ∧ Keeps (fun i => i = r) w w' := by
  have hs : s.size ≤ 9223372036854775807 := by omega
  have c0 : w.cell? ⟨r, 0, none⟩ = some (.string s) := hB.cell 0
  have c1 : w.cell? ⟨r, 1, none⟩ = some (.int .i64 (a : Int)) := hB.cell 1
  have fz := hB.frozen
  have hrl := hB.lt
  have HX := Lib.hid hB
  obtain ⟨m, hm⟩ := hg
  have hsz : (s.extract a s.size).size < 4294967281 := by simp; omega
  have hdat : (s.extract a s.size).data.toList = s.data.toList.drop a := by
    rw [ext_data, List.take_of_length_le]; rw [List.length_drop, len_data]; exact Nat.le_refl _
  have hbl := behind_le (s.data.toList.drop a)
  rw [List.length_drop, len_data] at hbl
  rcases behind_index (s.data.toList.drop a) with ⟨i, h1, h2⟩ | ⟨h1, h2⟩
  · have hix : ∀ u, Calls Try.prog 53 #[.string (s.extract a s.size), .string { data := #[42, 47] }] (ext w u) fun e w' => e = .returned (.int .i64 (i : Int)) ∧ ext w u = w' := fun u =>
      (Sh.strings_Index (s.extract a s.size) { data := #[42, 47] } m (ext w u) hsz (cell_ext hm u)).mono fun e w' h => ⟨by rw [h.1, hdat]; show Ending.returned (.int .i64 (Lib.index (s.data.toList.drop a) [42, 47])) = _; rw [h1], h.2.symm⟩
    rw [h2] at hbl ⊢
    obtain ⟨b, hb⟩ : ∃ b : Int, b = (a : Int) + ((i : Int) + 2) := ⟨_, rfl⟩
    have hbb : (((a + (i + 2) : Nat)) : Int) = b := by omega
    have HE := Lib.hid hbb
    have hb1 : (a : Int) + ((i : Int) + 2) = b := hb.symm
    have hb2 : b ≤ 1000000 := by omega
    have hb3 : 0 ≤ b := by omega
    clear hdat h1 h2 hbb hb hm hB hbl
    go_enter Try.func35, Try.ntmps35
    go_wp2_with fail
    refine wp_region_ext (by kernel_rfl) (by kernel_rfl) ?_
    repeat (go_big_quiet_step ((go_at_call 53; exact quiet_ext_same (hix _))))
    refine wpQuiet_nil ?_
    rintro _ ⟨u, rfl⟩
    go_wp2_with fail
    refine bodyPost_ret (results_none rfl _ _ _) rfl ?_
    refine ⟨rfl, ?_, Keeps.put (X := fun i => i = r) ((Keeps.refl _ w).then_ (below_ext w u)) (.inl rfl) _⟩
    have h3 := (HX.out.then_ (below_ext w u)).put 1 (.int .i64 b)
    unfold Lx
    rw [HE.out]
    exact h3
  · have hix : ∀ u, Calls Try.prog 53 #[.string (s.extract a s.size), .string { data := #[42, 47] }] (ext w u) fun e w' => e = .returned (.int .i64 (-1)) ∧ ext w u = w' := fun u =>
      (Sh.strings_Index (s.extract a s.size) { data := #[42, 47] } m (ext w u) hsz (cell_ext hm u)).mono fun e w' h => ⟨by rw [h.1, hdat]; show Ending.returned (.int .i64 (Lib.index (s.data.toList.drop a) [42, 47])) = _; rw [h1], h.2.symm⟩
    have HE : Hid (a + behind (s.data.toList.drop a) = s.size) := Lib.hid (by rw [h2, List.length_drop, len_data]; omega)
    clear hdat h1 h2 hm hB hbl
    go_enter Try.func35, Try.ntmps35
    go_wp2_with fail
    refine wp_region_ext (by kernel_rfl) (by kernel_rfl) ?_
    repeat (go_big_quiet_step ((go_at_call 53; exact quiet_ext_same (hix _))))
    refine wpQuiet_nil ?_
    rintro _ ⟨u, rfl⟩
    go_wp2_with fail
    go_end0
    rw [HE.out]
    exact ⟨rfl, (HX.out.then_ (below_ext w u)).put 1 _, Keeps.put (X := fun i => i = r) ((Keeps.refl _ w).then_ (below_ext w u)) (.inl rfl) _⟩

end Go.Proofs.Ytmicgfpiknibhaa
