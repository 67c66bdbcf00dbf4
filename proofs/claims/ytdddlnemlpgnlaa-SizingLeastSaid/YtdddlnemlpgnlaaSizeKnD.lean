/- Sizing, known: sizes of first values. -/
import Derived.Test.YtdddlnemlpgnlaaSizeKnC
namespace Go.Proofs.Ytdddlnemlpgnlaa
open Go.RowKit
set_option linter.unusedSimpArgs false
set_option linter.unusedVariables false
attribute [local go_sem] cell?_ext frozen?_ext lt_size_ext

set_option maxHeartbeats 4000000 in
theorem RLeast_zero (w : World) : Calls Try.prog 69 #[.int .i64 0] w fun e w' => e = .returned (.int .i64 0) ∧ w = w' := by
  go_enter Try.func69, Try.ntmps69
  go_wp2_with fail
  go_ret
  exact ⟨rfl, rfl⟩

theorem part_zero : partH 0 64 1000 = 0 := by decide +kernel
set_option maxHeartbeats 4000000 in
theorem RMeasure_zero (f : Int) (w : World) : Calls Try.prog 70 #[.agg #[.int .i64 2, .int .i64 0, .int .i64 1, .string { data := #[] }], .int .i64 f, .int .i64 0, .int .i64 0] w fun e w' => e = .returned (.int .i64 0) ∧ Below w.heap.size w w' := by
  have hp := fun w => RPart_any 0 64 1000 w
  rw [part_zero] at hp
  have hh := fun w => RHold_any 0 w
  rw [show hold 0 = 0 from by decide +kernel] at hh
  go_enter Try.func70, Try.ntmps70
  go_wp2_with fail
  refine (hh _).mono ?_; rintro e w' ⟨rfl, rfl⟩
  go_wp2_with fail
  refine (hh _).mono ?_; rintro e w' ⟨rfl, rfl⟩
  go_wp2_with fail
  refine (hp _).mono ?_; rintro e w' ⟨rfl, rfl⟩
  go_wp2_with fail
  go_ret
  exact ⟨rfl, below_alloc (Below.refl _ _) _⟩

def sizeW : Nat → ByteArray := fun i => ([{ data := #[97, 117, 116, 111] }, { data := #[110, 111, 114, 109, 97, 108] }, { data := #[] }, { data := #[109, 105, 110, 45, 99, 111, 110, 116, 101, 110, 116] }, { data := #[109, 97, 120, 45, 99, 111, 110, 116, 101, 110, 116] }, { data := #[102, 105, 116, 45, 99, 111, 110, 116, 101, 110, 116] }, { data := #[110, 111, 110, 101] }] : List ByteArray).getD i { data := #[] }
def sizeL : List ByteArray := [{ data := #[97, 117, 116, 111] }, { data := #[110, 111, 114, 109, 97, 108] }, { data := #[] }, { data := #[109, 105, 110, 45, 99, 111, 110, 116, 101, 110, 116] }, { data := #[109, 97, 120, 45, 99, 111, 110, 116, 101, 110, 116] }, { data := #[102, 105, 116, 45, 99, 111, 110, 116, 101, 110, 116] }, { data := #[110, 111, 110, 101] }]
def sizeCells : Array Value := #[.string { data := #[97, 117, 116, 111] }, .string { data := #[110, 111, 114, 109, 97, 108] }, .string { data := #[] }, .string { data := #[109, 105, 110, 45, 99, 111, 110, 116, 101, 110, 116] }, .string { data := #[109, 97, 120, 45, 99, 111, 110, 116, 101, 110, 116] }, .string { data := #[102, 105, 116, 45, 99, 111, 110, 116, 101, 110, 116] }, .string { data := #[110, 111, 110, 101] }]
theorem size_cell {w : World} {g : Nat} (hb : Blk w g 9 sizeCells) (j : Nat) (hj : j < 7) : w.cell? ⟨g, j, none⟩ = some (.string (sizeW j)) := by
  rw [hb.cell j]
  have e : sizeCells = (sizeL.map Value.string).toArray := rfl
  have hl : sizeL.length = 7 := rfl
  have h2 : sizeL[j]? = some sizeL[j] := List.getElem?_eq_getElem _
  have e2 : sizeW j = sizeL.getD j { data := #[] } := rfl
  rw [e, List.getElem?_toArray, List.getElem?_map, h2, e2, List.getD_eq_getElem?_getD, h2]
  rfl

set_option maxHeartbeats 4000000 in
theorem RSize17_len_true (f : Int) (w : World) : Calls Try.prog 77 #[.agg #[.int .i64 2, .int .i64 0, .int .i64 1, .string { data := #[] }], .bool true, .int .i64 f, .int .i64 0, .int .i64 0] w fun e w' => e = .returned (.agg #[.int .i64 1, .int .i64 0]) ∧ Below w.heap.size w w' := by
  go_enter Try.func77, Try.ntmps77
  go_upto_region 1 with fail
  refine at_any (fun wx => Blk wx w.heap.size 72 #[.int .i64 2, .int .i64 0, .int .i64 1, .string { data := #[] }] ∧ Blk wx (w.heap.size + 1) 23 #[.int .i64 0, .int .i64 0] ∧ Below w.heap.size w wx) ⟨(Blk.new _ _ _).alloc _, Blk.new_at (by simp), below_alloc (below_alloc (Below.refl _ _) _) _⟩ ?_
  rintro wx ⟨hbv, hbr, hb⟩
  have x0 : wx.cell? ⟨w.heap.size, 0, none⟩ = some (.int .i64 2) := hbv.cell 0
  have x1 : wx.cell? ⟨w.heap.size, 1, none⟩ = some (.int .i64 0) := hbv.cell 1
  have x2 : wx.cell? ⟨w.heap.size, 2, none⟩ = some (.int .i64 1) := hbv.cell 2
  have x3 : wx.cell? ⟨w.heap.size, 3, none⟩ = some (.string { data := #[] }) := hbv.cell 3
  have HBR := Lib.hid hbr
  have HB := Lib.hid hb
  clear hbv hbr hb
  go_wp2_with fail
  refine (RMeasure_zero _ _).mono ?_; rintro e w2 ⟨rfl, hb2⟩
  have HBR2 := Lib.hid (HBR.out.then_ hb2)
  have HB2 := Lib.hid (below_then HB.out hb2)
  have y0 : w2.cell? ⟨w.heap.size + 1, 0, none⟩ = some (.int .i64 0) := HBR2.out.cell 0
  have y1 : w2.cell? ⟨w.heap.size + 1, 1, none⟩ = some (.int .i64 0) := HBR2.out.cell 1
  have z0 : w2.frozen? ⟨w.heap.size + 1, 0, none⟩ = false := HBR2.out.frozen 0
  have z1 : w2.frozen? ⟨w.heap.size + 1, 1, none⟩ = false := HBR2.out.frozen 1
  clear hb2
  go_wp2_with fail
  exact bodyPost_ret (v := .agg #[.int .i64 1, .int .i64 0]) (results_cell rfl rfl ((HBR2.out.put 0 (.int .i64 1)).put 1 (.int .i64 0)) Try.underlying23 rfl (by kernel_rfl)) rfl
    ⟨rfl, below_set (below_set HB2.out (by show w.heap.size ≤ w.heap.size + 1; omega) _) (by show w.heap.size ≤ w.heap.size + 1; omega) _⟩

set_option maxHeartbeats 4000000 in
theorem RSize17_len_false (f : Int) (w : World) : Calls Try.prog 77 #[.agg #[.int .i64 2, .int .i64 0, .int .i64 1, .string { data := #[] }], .bool false, .int .i64 f, .int .i64 0, .int .i64 0] w fun e w' => e = .returned (.agg #[.int .i64 1, .int .i64 0]) ∧ Below w.heap.size w w' := by
  go_enter Try.func77, Try.ntmps77
  go_upto_region 1 with fail
  refine at_any (fun wx => Blk wx w.heap.size 72 #[.int .i64 2, .int .i64 0, .int .i64 1, .string { data := #[] }] ∧ Blk wx (w.heap.size + 1) 23 #[.int .i64 0, .int .i64 0] ∧ Below w.heap.size w wx) ⟨(Blk.new _ _ _).alloc _, Blk.new_at (by simp), below_alloc (below_alloc (Below.refl _ _) _) _⟩ ?_
  rintro wx ⟨hbv, hbr, hb⟩
  have x0 : wx.cell? ⟨w.heap.size, 0, none⟩ = some (.int .i64 2) := hbv.cell 0
  have x1 : wx.cell? ⟨w.heap.size, 1, none⟩ = some (.int .i64 0) := hbv.cell 1
  have x2 : wx.cell? ⟨w.heap.size, 2, none⟩ = some (.int .i64 1) := hbv.cell 2
  have x3 : wx.cell? ⟨w.heap.size, 3, none⟩ = some (.string { data := #[] }) := hbv.cell 3
  have HBR := Lib.hid hbr
  have HB := Lib.hid hb
  clear hbv hbr hb
  go_wp2_with fail
  refine (RMeasure_zero _ _).mono ?_; rintro e w2 ⟨rfl, hb2⟩
  have HBR2 := Lib.hid (HBR.out.then_ hb2)
  have HB2 := Lib.hid (below_then HB.out hb2)
  have y0 : w2.cell? ⟨w.heap.size + 1, 0, none⟩ = some (.int .i64 0) := HBR2.out.cell 0
  have y1 : w2.cell? ⟨w.heap.size + 1, 1, none⟩ = some (.int .i64 0) := HBR2.out.cell 1
  have z0 : w2.frozen? ⟨w.heap.size + 1, 0, none⟩ = false := HBR2.out.frozen 0
  have z1 : w2.frozen? ⟨w.heap.size + 1, 1, none⟩ = false := HBR2.out.frozen 1
  clear hb2
  go_wp2_with fail
  refine (RLeast_zero _).mono ?_; rintro e w' ⟨rfl, rfl⟩
  go_wp2_with fail
  exact bodyPost_ret (v := .agg #[.int .i64 1, .int .i64 0]) (results_cell rfl rfl ((HBR2.out.put 0 (.int .i64 1)).put 1 (.int .i64 0)) Try.underlying23 rfl (by kernel_rfl)) rfl
    ⟨rfl, below_set (below_set HB2.out (by show w.heap.size ≤ w.heap.size + 1; omega) _) (by show w.heap.size ≤ w.heap.size + 1; omega) _⟩

set_option maxHeartbeats 4000000 in
theorem RSize17_word (K I : Nat) (hK : 1 ≤ K ∧ K < 31) (hI : I < 7) (he : sizeW I = wordAt K) (hn : ∀ j, j < I → ((sizeW j).toList == (wordAt K).toList) = false) (b : Bool) (f : Int) (w : World) :
    Calls Try.prog 77 #[.agg #[.int .i64 1, .int .i64 K, .int .i64 0, .string { data := #[] }], .bool b, .int .i64 f, .int .i64 0, .int .i64 0] w fun e w' => e = .returned (.agg #[.int .i64 I, .int .i64 0]) ∧ Below w.heap.size w w' := by
  have htx := RText_word K hK
  generalize wordAt K = s at *
  go_enter Try.func77, Try.ntmps77
  go_upto_region 1 with fail
  refine at_any (fun wx => Blk wx w.heap.size 72 #[.int .i64 1, .int .i64 K, .int .i64 0, .string { data := #[] }] ∧ Blk wx (w.heap.size + 1) 23 #[.int .i64 0, .int .i64 0] ∧ Below w.heap.size w wx) ⟨(Blk.new _ _ _).alloc _, Blk.new_at (by simp), below_alloc (below_alloc (Below.refl _ _) _) _⟩ ?_
  rintro wx ⟨hbv, hbr, hb⟩
  have x0 : wx.cell? ⟨w.heap.size, 0, none⟩ = some (.int .i64 1) := hbv.cell 0
  have x1 : wx.cell? ⟨w.heap.size, 1, none⟩ = some (.int .i64 K) := hbv.cell 1
  have x2 : wx.cell? ⟨w.heap.size, 2, none⟩ = some (.int .i64 0) := hbv.cell 2
  have x3 : wx.cell? ⟨w.heap.size, 3, none⟩ = some (.string { data := #[] }) := hbv.cell 3
  have HBV := Lib.hid hbv
  have HBR := Lib.hid hbr
  have HB := Lib.hid hb
  have HN := Lib.hid hn
  have HTX := Lib.hid htx
  clear hbv hbr hb hn htx
  go_upto_region 10 with fail
  clear x0 x1 x2 x3
  go_loopw [13] (fun v13 wr => ∃ j : Nat, j ≤ I ∧ v13 = .int .i64 j ∧ Blk wr w.heap.size 72 #[.int .i64 1, .int .i64 K, .int .i64 0, .string { data := #[] }] ∧ Blk wr (w.heap.size + 1) 23 #[.int .i64 0, .int .i64 0] ∧ Blk wr wx.heap.size 9 sizeCells ∧ Below w.heap.size w wr) (fun v13 _ => 7 - (intOf v13).toNat)
  case atStart => exact ⟨0, by omega, rfl, HBV.out.alloc _, HBR.out.alloc _, Blk.new _ _ _, below_alloc HB.out _⟩
  case round =>
    obtain ⟨j, hj, rfl, hbv, hbr, hbs, hb⟩ := hrel
    have xs : wr.cell? ⟨wx.heap.size, j, none⟩ = some (.string (sizeW j)) := size_cell hbs j (by omega)
    have xl := hbv.lt
    have yl := hbs.lt
    have x0 : wr.cell? ⟨w.heap.size, 0, none⟩ = some (.int .i64 1) := hbv.cell 0
    have x1 : wr.cell? ⟨w.heap.size, 1, none⟩ = some (.int .i64 K) := hbv.cell 1
    have x2 : wr.cell? ⟨w.heap.size, 2, none⟩ = some (.int .i64 0) := hbv.cell 2
    have x3 : wr.cell? ⟨w.heap.size, 3, none⟩ = some (.string { data := #[] }) := hbv.cell 3
    have HBV2 := Lib.hid hbv
    have HBR2 := Lib.hid hbr
    have HBS2 := Lib.hid hbs
    have HB2 := Lib.hid hb
    clear hbv hbr hbs hb HBV HBR HB
    have j0 : (0 : Int) ≤ (j : Int) := by omega
    have j7 : (j : Int) < 7 := by omega
    by_cases hji : j = I
    · subst hji
      rw [he] at xs
      go_upto_region 12 with fail
      refine wp_region_ext (by kernel_rfl) (by kernel_rfl) ?_
      repeat (go_big_quiet_step ((go_at_call 67; exact quiet_ext (HTX.out _))))
      refine wpQuiet_nil ?_
      intro w2 hw2
      have hb2 := (grown_rules hw2).2.2.2
      have HBR3 := Lib.hid (HBR2.out.then_ hb2)
      have HB3 := Lib.hid (below_then HB2.out hb2)
      clear hw2 hb2 xs x0 x1 x2 x3 xl yl
      have y0 : w2.cell? ⟨w.heap.size + 1, 0, none⟩ = some (.int .i64 0) := HBR3.out.cell 0
      have y1 : w2.cell? ⟨w.heap.size + 1, 1, none⟩ = some (.int .i64 0) := HBR3.out.cell 1
      have z0 : w2.frozen? ⟨w.heap.size + 1, 0, none⟩ = false := HBR3.out.frozen 0
      have z1 : w2.frozen? ⟨w.heap.size + 1, 1, none⟩ = false := HBR3.out.frozen 1
      go_wp2_with fail
      exact bodyPost_ret (v := .agg #[.int .i64 j, .int .i64 0]) (results_cell rfl rfl ((HBR3.out.put 0 (.int .i64 j)).put 1 (.int .i64 0)) Try.underlying23 rfl (by kernel_rfl)) rfl
        ⟨rfl, below_set (below_set HB3.out (by show w.heap.size ≤ w.heap.size + 1; omega) _) (by show w.heap.size ≤ w.heap.size + 1; omega) _⟩
    · have hne := HN.out j (by omega)
      generalize sizeW j = s2 at *
      go_upto_region 12 with fail
      refine wp_region_ext (by kernel_rfl) (by kernel_rfl) ?_
      repeat (go_big_quiet_step ((go_at_call 67; exact quiet_ext (HTX.out _))))
      refine wpQuiet_nil ?_
      intro w2 hw2
      have hb2 := (grown_rules hw2).2.2.2
      have HW2 := Lib.hid hb2
      clear hw2 hb2 xs x0 x1 x2 x3 xl yl
      go_wp2_with fail
      go_roundw
      case rel => exact ⟨j + 1, by omega, by go_num, HBV2.out.then_ HW2.out, HBR2.out.then_ HW2.out, HBS2.out.then_ HW2.out, below_then HB2.out HW2.out⟩
      case measure => (simp [intOf]; omega)

end Go.Proofs.Ytdddlnemlpgnlaa
