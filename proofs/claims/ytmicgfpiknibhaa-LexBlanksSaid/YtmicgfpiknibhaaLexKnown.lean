/- The fixed calls of the laws on tokens. -/
import Derived.Test.YtmicgfpiknibhaaLexList
import Derived.Test.YtmicgfpiknibhaaLexPrP
import Derived.Test.YtmicgfpiknibhaaLexPrR
namespace Go.Proofs.Ytmicgfpiknibhaa
open Go.RowKit
set_option linter.unusedSimpArgs false
set_option linter.unusedVariables false
attribute [local go_sem] cell?_ext frozen?_ext lt_size_ext tk_guard

theorem known_cut : cut [97, 58, 49, 46, 53, 112, 120, 32, 45, 53] = [⟨1, [97], 0⟩, ⟨10, [], 0⟩, ⟨9, [112, 120], 1500⟩, ⟨20, [], 0⟩, ⟨7, [], -5000⟩] := by decide +kernel
theorem known_tx1 : tx ⟨7, [], 1000⟩ = [49] := by
  show byt (prtI 1000) = [49]
  have e : prtI 1000 = be 1 1 := by
    unfold prtI
    rw [show hold 1000 = 1000 from rfl, if_neg (by decide)]
    show prt 1000 = _
    unfold prt
    rw [if_pos (by decide), List.append_nil]
  rw [e, be_one (by decide)]; rfl
theorem known_tx2 : tx ⟨9, [112, 120], 2000⟩ = [50, 112, 120] := by
  show byt (prtI 2000) ++ [112, 120] = _
  have e : prtI 2000 = be 1 2 := by
    unfold prtI
    rw [show hold 2000 = 2000 from rfl, if_neg (by decide)]
    show prt 2000 = _
    unfold prt
    rw [if_pos (by decide), List.append_nil]
  rw [e, be_one (by decide)]; rfl
theorem known_out : prOut [⟨7, [], 1000⟩, ⟨9, [112, 120], 2000⟩] = ([49, 47, 42, 42, 47, 50, 112, 120], 0) := by
  have h1 : rightT ⟨7, [], 1000⟩ = true := by
    unfold rightT; rw [known_tx1]; exact (by decide +kernel : ((textT (⟨7, [], 1000⟩ : Tk)).isSome && decide (cut [49] = [⟨7, [], 1000⟩])) = true)
  have h2 : rightT ⟨9, [112, 120], 2000⟩ = true := by
    unfold rightT; rw [known_tx2]; exact (by decide +kernel : ((textT (⟨9, [112, 120], 2000⟩ : Tk)).isSome && decide (cut [50, 112, 120] = [⟨9, [112, 120], 2000⟩])) = true)
  have h3 : sep ⟨7, [], 1000⟩ ⟨9, [112, 120], 2000⟩ = [47, 42, 42, 47] := by
    unfold sep
    rw [known_tx1, known_tx2]
    exact if_neg (by decide +kernel)
  have h4 : pr [⟨7, [], 1000⟩, ⟨9, [112, 120], 2000⟩] = [49, 47, 42, 42, 47, 50, 112, 120] := by
    show sepO none _ ++ (tx ⟨7, [], 1000⟩ ++ (sep ⟨7, [], 1000⟩ ⟨9, [112, 120], 2000⟩ ++ (tx ⟨9, [112, 120], 2000⟩ ++ []))) = _
    rw [h3, known_tx1, known_tx2]; rfl
  unfold prOut
  rw [h4]
  simp [h1, h2]

set_option maxHeartbeats 4000000 in
theorem known_any (w : World) (hg : Gm w) :
    Calls Try.prog 8 #[] w fun e w' => e = .returned (.bool true) ∧ Below w.heap.size w w' := by
  have hlex := fun w hg => Lex_any { data := #[97, 58, 49, 46, 53, 112, 120, 32, 45, 53] } (by decide) w hg
  have HLE := Lib.hid hlex
  have HG := Lib.hid hg
  clear hlex hg
  go_enter Try.func8, Try.ntmps8
  go_wp2_with fail
  refine (HLE.out _ HG.out).mono ?_
  rintro e w2 (⟨hl, -, -⟩ | ⟨-, v, rfl, ho, hb2⟩)
  · exact absurd hl (by decide)
  have e10 : (({ data := #[97, 58, 49, 46, 53, 112, 120, 32, 45, 53] } : ByteArray).data.toList) = [97, 58, 49, 46, 53, 112, 120, 32, 45, 53] := rfl
  try rw [e10] at ho
  rw [known_cut] at ho
  obtain ⟨ao, cap, rfl, ht⟩ := own_tks ho
  have HB := Lib.hid hb2
  clear ho hb2
  rcases ht with h0 | ⟨b, o, rfl, hlb, hk⟩
  · simp at h0
  have HK := Lib.hid hk
  clear hk
  go_wp2_with fail
  have hT2 : Tks (w2.alloc (.cells #[.int .i64 7, .string { data := #[] }, .int .i64 1000, .int .i64 9, .string { data := #[112, 120] }, .int .i64 2000] 23)) (some ⟨w2.heap.size, 0, none⟩) [⟨7, [], 1000⟩, ⟨9, [112, 120], 2000⟩] := by
    have hb := Blk.new w2 23 #[.int .i64 7, .string { data := #[] }, .int .i64 1000, .int .i64 9, .string { data := #[112, 120] }, .int .i64 2000]
    refine .inr ⟨w2.heap.size, 0, rfl, hb.lt, fun i t ht => ?_⟩
    match i, ht with
    | 0, ht =>
      obtain rfl := Option.some.inj ht
      exact ⟨hb.cell 0, hb.cell 1, hb.cell 2⟩
    | 1, ht =>
      obtain rfl := Option.some.inj ht
      exact ⟨hb.cell 3, hb.cell 4, hb.cell 5⟩
    | i + 2, ht => simp at ht
  have hsz : szL [⟨7, [], 1000⟩, ⟨9, [112, 120], 2000⟩] ≤ 400000 := by
    show (tx ⟨7, [], 1000⟩).length + 4 + ((tx ⟨9, [112, 120], 2000⟩).length + 4 + 0) ≤ 400000
    rw [known_tx1, known_tx2]; decide
  have hpr := Print_list [⟨7, [], 1000⟩, ⟨9, [112, 120], 2000⟩] (some ⟨w2.heap.size, 0, none⟩) 2 (Nat.le_refl _) (by unfold maxLen; decide) (by intro t ht; simp at ht; rcases ht with rfl | rfl <;> simp) hsz _ hT2 (HG.out.then_ (below_alloc HB.out _))
  rw [known_out] at hpr
  have HPR := Lib.hid hpr
  clear hpr hsz hT2
  refine HPR.out.mono ?_; rintro e w3 ⟨rfl, hb3⟩
  obtain ⟨k0, k1, k2⟩ := HK.out 2 _ rfl
  obtain ⟨j0, j1, j2⟩ := HK.out 4 _ rfl
  have r0 := (hb3.cell (p := ⟨b, o + 2 * 3, none⟩) (by simp; omega)).trans (((Below.refl w2.heap.size w2).alloc (Nat.le_refl _) _).cell (p := ⟨b, o + 2 * 3, none⟩) hlb |>.trans k0)
  have r1 := (hb3.cell (p := ⟨b, o + 2 * 3 + 1, none⟩) (by simp; omega)).trans (((Below.refl w2.heap.size w2).alloc (Nat.le_refl _) _).cell (p := ⟨b, o + 2 * 3 + 1, none⟩) hlb |>.trans k1)
  have r2 := (hb3.cell (p := ⟨b, o + 2 * 3 + 2, none⟩) (by simp; omega)).trans (((Below.refl w2.heap.size w2).alloc (Nat.le_refl _) _).cell (p := ⟨b, o + 2 * 3 + 2, none⟩) hlb |>.trans k2)
  have q2 := (hb3.cell (p := ⟨b, o + 4 * 3 + 2, none⟩) (by simp; omega)).trans (((Below.refl w2.heap.size w2).alloc (Nat.le_refl _) _).cell (p := ⟨b, o + 4 * 3 + 2, none⟩) hlb |>.trans j2)
  simp only [Nat.add_assoc, Nat.reduceMul, Nat.reduceAdd] at r0 r1 r2 q2
  have HB3 := Lib.hid (below_then (below_alloc HB.out _) hb3)
  clear hb3 k0 k1 k2 j0 j1 j2
  have e1 : (strOf [112, 120]).toList = [112, 120] := by rw [ByteArray.toList_eq, strOf_data]
  have e2 : (strOf [49, 47, 42, 42, 47, 50, 112, 120]).toList = [49, 47, 42, 42, 47, 50, 112, 120] := by rw [ByteArray.toList_eq, strOf_data]
  go_wp2_with fail
  go_ret
  exact ⟨rfl, HB3.out⟩
end Go.Proofs.Ytmicgfpiknibhaa
