/- Alignment: lines, offsets, margins that are auto. -/
import Derived.Test.YtohnhgchoppgmaaRSpaces
import Derived.Test.YtohnhgchoppgmaaFixSub
import Derived.Deep.RegionWith
namespace Go.Proofs.Ytohnhgchoppgmaa
open Go.Shelf Go.RowKit Go.Lib Go.Sort
set_option linter.unusedSimpArgs false
set_option linter.unusedVariables false

/-- Two new rows of numbers. -/
def TwoOut (w : World) (n m : Nat) (f g : Nat → Int) (e : Ending) (w' : World) : Prop :=
  ∃ o1 o2, e = .returned (.tuple #[.slice (some ⟨o1, 0, none⟩) n n, .slice (some ⟨o2, 0, none⟩) m m]) ∧ w'.rowIs o1 3 n (fun i => .int .i64 (f i)) ∧ w'.rowIs o2 3 m (fun i => .int .i64 (g i)) ∧ Below w.heap.size w w'

theorem lt_alloc_drew (w : World) (o : Obj) : w.heap.size < (w.alloc o).drew.heap.size := by
  show w.heap.size < (w.alloc o).heap.size
  simp
theorem hold_held {f free : Int} (h : f = hold free) : hold f = f := by subst h; exact hold_hold free
theorem many_many {n : Nat} {k : Int} (h : n = manyN k) : manyN (n : Int) = n := by subst h; exact manyN_id _ (manyN_bd k)

theorem below_of_drew {w w1 : World} (h : Below w.drew.heap.size w.drew w1) : Below w.heap.size w w1 := ⟨h.os, h.tape, h.output, h.size, h.block⟩
theorem below_of_alloc_drew {w w1 : World} {o : Obj} (h : Below (w.alloc o).drew.heap.size (w.alloc o).drew w1) : Below w.heap.size w w1 :=
  below_then ((Below.refl _ w).alloc (Nat.le_refl _) o) ⟨h.os, h.tape, h.output, h.size, h.block⟩

set_option maxHeartbeats 2000000 in
theorem Lines_a (free k way : Int) (hw : ¬ way = 0) (w : World) : Calls Try.prog 17 #[.int .i64 free, .int .i64 k, .int .i64 way] w
    (TwoOut w (manyN k) (manyN k + 1) (fun _ => 0) (spaces (hold free) (manyN k) (IntKind.i64.wrap (way - 1)))) := by
  have hn := manyN_bd k
  have HH := Lib.hid (Hold_any free)
  have HM := Lib.hid (many_any k)
  have HF := Lib.hid (hold_hold free)
  have HMM := Lib.hid (manyN_id _ hn)
  generalize hold free = f at *
  generalize manyN k = n at *
  have hmk := run_make_row' (P := Try.prog) 24 3 (.int .i64 0) 8 Try.underlying24 int_info rfl .i64 .i64 n (by omega) (by omega)
  have HS : Hid (∀ x w, Calls Try.prog 10 #[.int .i64 f, .int .i64 n, .int .i64 x] w (RowOut w (n + 1) (spaces f n x))) := Lib.hid (fun x w => by
    have h := Spaces_any f n x w
    rw [HF.out, HMM.out] at h; exact h)
  have hw' : (way != 0) = true := by simp [hw]
  clear hw
  go_enter Try.func17, Try.ntmps17
  go_wp2_with fail
  refine (HH.out _).mono ?_; rintro e w' ⟨rfl, rfl⟩
  go_wp2_with fail
  refine (HM.out _).mono ?_; rintro e w' ⟨rfl, rfl⟩
  go_wp2_with fail
  go_region_with (first | (go_at_call 10; refine (HS.out _ _).mono ?_; rintro e w1 ⟨o, rfl, ho, hr, hb1⟩; have HR := Lib.hid hr; have HB := Lib.hid hb1; clear hr hb1))
  all_goals
    clear hmk
    go_wp2_with fail
    first
      | refine bodyPost_ret (v := .tuple #[.slice (some ⟨w1.heap.size, 0, none⟩) n n, .slice (some ⟨o, 0, none⟩) (n + 1) (n + 1)]) (by simp [results, Try.results17, go_sem]) rfl ?_
        exact ⟨w1.heap.size, o, rfl, World.rowIs_made w1 (.int .i64 0) n 3, HR.out.alloc _, below_alloc (below_of_drew HB.out) _⟩
      | refine bodyPost_ret (v := .tuple #[.slice (some ⟨w.heap.size, 0, none⟩) n n, .slice (some ⟨o, 0, none⟩) (n + 1) (n + 1)]) (by simp [results, Try.results17, go_sem]) rfl ?_
        exact ⟨w.heap.size, o, rfl, (World.rowIs_made w (.int .i64 0) n 3).of_block (HB.out.block _ (lt_alloc_drew w _)), HR.out, below_of_alloc_drew HB.out⟩

set_option maxHeartbeats 2000000 in
theorem Lines_b (free k : Int) (hc : hold free ≤ 0 ∨ manyN k = 0) (w : World) : Calls Try.prog 17 #[.int .i64 free, .int .i64 k, .int .i64 0] w
    (TwoOut w (manyN k) (manyN k + 1) (fun _ => 0) (spaces (hold free) (manyN k) 0)) := by
  have hn := manyN_bd k
  have HH := Lib.hid (Hold_any free)
  have HM := Lib.hid (many_any k)
  have HF := Lib.hid (hold_hold free)
  have HMM := Lib.hid (manyN_id _ hn)
  generalize hold free = f at *
  generalize manyN k = n at *
  have hmk := run_make_row' (P := Try.prog) 24 3 (.int .i64 0) 8 Try.underlying24 int_info rfl .i64 .i64 n (by omega) (by omega)
  have HS : Hid (∀ x w, Calls Try.prog 10 #[.int .i64 f, .int .i64 n, .int .i64 x] w (RowOut w (n + 1) (spaces f n x))) := Lib.hid (fun x w => by
    have h := Spaces_any f n x w
    rw [HF.out, HMM.out] at h; exact h)
  by_cases hf : f ≤ 0
  · have hfd : decide (f ≤ 0) = true := decide_eq_true hf
    clear hc
    go_enter Try.func17, Try.ntmps17
    go_wp2_with fail
    refine (HH.out _).mono ?_; rintro e w' ⟨rfl, rfl⟩
    go_wp2_with fail
    refine (HM.out _).mono ?_; rintro e w' ⟨rfl, rfl⟩
    go_wp2_with fail
    go_region_with (first | (go_at_call 10; refine (HS.out _ _).mono ?_; rintro e w1 ⟨o, rfl, ho, hr, hb1⟩; have HR := Lib.hid hr; have HB := Lib.hid hb1; clear hr hb1))
    all_goals
      clear hmk
      go_wp2_with fail
      first
        | refine bodyPost_ret (v := .tuple #[.slice (some ⟨w1.heap.size, 0, none⟩) n n, .slice (some ⟨o, 0, none⟩) (n + 1) (n + 1)]) (by simp [results, Try.results17, go_sem]) rfl ?_
          exact ⟨w1.heap.size, o, rfl, World.rowIs_made w1 (.int .i64 0) n 3, HR.out.alloc _, below_alloc (below_of_drew HB.out) _⟩
        | refine bodyPost_ret (v := .tuple #[.slice (some ⟨w.heap.size, 0, none⟩) n n, .slice (some ⟨o, 0, none⟩) (n + 1) (n + 1)]) (by simp [results, Try.results17, go_sem]) rfl ?_
          exact ⟨w.heap.size, o, rfl, (World.rowIs_made w (.int .i64 0) n 3).of_block (HB.out.block _ (lt_alloc_drew w _)), HR.out, below_of_alloc_drew HB.out⟩
  · have hfd : decide (f ≤ 0) = false := decide_eq_false hf
    have hn0 : n = 0 := by omega
    subst hn0
    have hmk0 : ∀ w, (Instr.makeSlice 24 (.int .i64 0) (.int .i64 0)).run Try.prog w = .ok (.slice (some ⟨w.heap.size, 0, none⟩) 0 0) (w.alloc (.cells (madeCells #[.int .i64 0] 0) 3)) := hmk
    clear hc hmk
    go_enter Try.func17, Try.ntmps17
    go_wp2_with fail
    refine (HH.out _).mono ?_; rintro e w' ⟨rfl, rfl⟩
    go_wp2_with fail
    refine (HM.out _).mono ?_; rintro e w' ⟨rfl, rfl⟩
    go_wp2_with fail
    go_region_with (first | (go_at_call 10; refine (HS.out _ _).mono ?_; rintro e w1 ⟨o, rfl, ho, hr, hb1⟩; have HR := Lib.hid hr; have HB := Lib.hid hb1; clear hr hb1))
    all_goals
      clear hmk0
      go_wp2_with fail
      first
        | refine bodyPost_ret (v := .tuple #[.slice (some ⟨w1.heap.size, 0, none⟩) 0 0, .slice (some ⟨o, 0, none⟩) 1 1]) (by simp [results, Try.results17, go_sem]) rfl ?_
          exact ⟨w1.heap.size, o, rfl, World.rowIs_made w1 (.int .i64 0) 0 3, HR.out.alloc _, below_alloc (below_of_drew HB.out) _⟩
        | refine bodyPost_ret (v := .tuple #[.slice (some ⟨w.heap.size, 0, none⟩) 0 0, .slice (some ⟨o, 0, none⟩) 1 1]) (by simp [results, Try.results17, go_sem]) rfl ?_
          exact ⟨w.heap.size, o, rfl, (World.rowIs_made w (.int .i64 0) 0 3).of_block (HB.out.block _ (lt_alloc_drew w _)), HR.out, below_of_alloc_drew HB.out⟩

set_option maxHeartbeats 2000000 in
theorem Lines_c (free k : Int) (hf : ¬ hold free ≤ 0) (hk : ¬ manyN k = 0) (w : World) : Calls Try.prog 17 #[.int .i64 free, .int .i64 k, .int .i64 0] w
    (TwoOut w (manyN k) (manyN k + 1) (deal (hold free) (manyN k) (fun _ => 1)) (fun _ => 0)) := by
  have hn := manyN_bd k
  have HH := Lib.hid (Hold_any free)
  have HM := Lib.hid (many_any k)
  generalize hold free = f at *
  generalize manyN k = n at *
  have hmk := run_make_row' (P := Try.prog) 24 3 (.int .i64 0) 8 Try.underlying24 int_info rfl .i64 .i64 n (by omega) (by omega)
  have hmk2 := run_make_row' (P := Try.prog) 24 3 (.int .i64 0) 8 Try.underlying24 int_info rfl .i64 .i64 (n + 1) (by omega) (by omega)
  obtain ⟨m, hm⟩ : ∃ m, m = n + 1 := ⟨_, rfl⟩
  rw [← hm] at hmk2 ⊢
  have qm : (n : Int) + 1 = (m : Int) := by omega
  have qm2 : IntKind.i64.wrap ((n : Int) + 1) = (m : Int) := by rw [IntKind.wrap_i64]; omega
  have qm3 : IntKind.i64.wrap ((m : Nat) : Int) = (m : Int) := by rw [IntKind.wrap_i64]; omega
  have hfd : decide (f ≤ 0) = false := decide_eq_false hf
  have hn0 : ((n : Int) == 0) = false := by simp; omega
  have HMK2 := Lib.hid hmk2
  have HQ := Lib.hid (And.intro qm (And.intro qm2 qm3))
  clear hm hmk2 qm qm2 qm3
  go_enter Try.func17, Try.ntmps17
  go_wp2_with fail
  refine (HH.out _).mono ?_; rintro e w' ⟨rfl, rfl⟩
  go_wp2_with fail
  refine (HM.out _).mono ?_; rintro e w' ⟨rfl, rfl⟩
  go_wp2_with fail
  have HR0 := Lib.hid (World.rowIs_made w (.int .i64 0) n 3)
  clear hmk
  go_loopw [38] (fun v38 wr => ∃ k : Nat, k ≤ n ∧ v38 = .int .i64 k ∧ wr.rowIs w.heap.size 3 n (fun i => .int .i64 (if i < k then 1 else 0)) ∧ Below w.heap.size w wr) (fun v38 _ => n - (intOf v38).toNat)
  case atStart => exact ⟨0, Nat.zero_le _, rfl, HR0.out.congr (fun i hi => by simp), (Below.refl _ w).alloc (Nat.le_refl _) _⟩
  case round =>
    clear HR0
    obtain ⟨k, hkn, rfl, hr, hb⟩ := hrel
    by_cases hlt : k < n
    · have fz := hr.frozen k
      have c6 := hr.cell hlt
      have kz : (k : Int) < (n : Int) := by omega
      have HR := Lib.hid hr
      have HB := Lib.hid hb
      clear hr hb
      go_wp2_with fail
      go_roundw
      case rel =>
        refine ⟨k + 1, hlt, by go_num, (HR.out.set k _).congr (fun j hj => ?_), below_set HB.out (Nat.le_refl _) _⟩
        by_cases e : j = k
        · subst e; rw [if_pos rfl, if_pos (by omega)]
        · rw [if_neg e]
          by_cases e2 : j < k
          · rw [if_pos e2, if_pos (by omega)]
          · rw [if_neg e2, if_neg (by omega)]
      case measure => simp [intOf]; omega
    · obtain rfl : k = n := by omega
      have hr1 : wr.rowIs w.heap.size 3 k (fun i => .int .i64 1) := hr.congr (fun i hi => by rw [if_pos hi])
      have HC : Hid (∀ w', Below wr.heap.size wr w' → Calls Try.prog 27 #[.int .i64 f, .slice (some ⟨w.heap.size, 0, none⟩) k k] w' (RowOut w' k (deal f k (fun _ => 1)))) := Lib.hid (fun w' hb' =>
        Deal_any f (some ⟨w.heap.size, 0, none⟩) k k (fun _ => 1) (by omega) w' ((Sl.row hr1).below hb'))
      have HB := Lib.hid hb
      clear hr hb hr1
      go_wp2_with fail
      have hmk2 := HMK2.out
      obtain ⟨qm, qm2, qm3⟩ := HQ.out
      go_region_with (first | (go_at_call 27; first | (refine (HC.out _ (by exact (Below.refl _ wr).drew)).mono ?_; rintro e w1 ⟨o, rfl, ho, hr, hb1⟩; have HR := Lib.hid hr; have HB1 := Lib.hid (below_of_drew hb1); clear hr hb1) | (refine (HC.out _ (by exact ((Below.refl _ wr).alloc (Nat.le_refl _) _).drew)).mono ?_; rintro e w1 ⟨o, rfl, ho, hr, hb1⟩; have HR := Lib.hid hr; have HB1 := Lib.hid (below_of_alloc_drew hb1); have HB2 := Lib.hid hb1; clear hr hb1)))
      all_goals
        clear hmk2 qm qm2 qm3
        go_wp2_with fail
        first
          | refine bodyPost_ret (v := .tuple #[.slice (some ⟨o, 0, none⟩) k k, .slice (some ⟨w1.heap.size, 0, none⟩) m m]) (by simp [results, Try.results17, go_sem]) rfl ?_
            exact ⟨o, w1.heap.size, rfl, HR.out.alloc _, World.rowIs_made w1 (.int .i64 0) m 3, below_alloc (below_then HB.out HB1.out) _⟩
          | refine bodyPost_ret (v := .tuple #[.slice (some ⟨o, 0, none⟩) k k, .slice (some ⟨wr.heap.size, 0, none⟩) m m]) (by simp [results, Try.results17, go_sem]) rfl ?_
            exact ⟨o, wr.heap.size, rfl, HR.out, (World.rowIs_made wr (.int .i64 0) m 3).of_block (HB2.out.block _ (lt_alloc_drew wr _)), below_then HB.out HB1.out⟩

/-- What lines grow, and what is spread around them. -/
def linesM (f : Int) (n : Nat) (way : Int) : Nat → Int := if ¬ way = 0 ∨ (f ≤ 0 ∨ n = 0) then fun _ => 0 else deal f n (fun _ => 1)
def linesS (f : Int) (n : Nat) (way : Int) : Nat → Int := if ¬ way = 0 then spaces f n (IntKind.i64.wrap (way - 1)) else if f ≤ 0 ∨ n = 0 then spaces f n 0 else fun _ => 0
theorem Lines_any (free k way : Int) (w : World) : Calls Try.prog 17 #[.int .i64 free, .int .i64 k, .int .i64 way] w
    (TwoOut w (manyN k) (manyN k + 1) (linesM (hold free) (manyN k) way) (linesS (hold free) (manyN k) way)) := by
  unfold linesM linesS
  by_cases hw : way = 0
  · subst hw
    by_cases hc : hold free ≤ 0 ∨ manyN k = 0
    · rw [if_pos (.inr hc), if_neg (by simp), if_pos hc]
      exact Lines_b free k hc w
    · rw [if_neg (by simp; omega), if_neg (by simp), if_neg hc]
      exact Lines_c free k (fun h => hc (.inl h)) (fun h => hc (.inr h)) w
  · rw [if_pos (.inl hw), if_pos hw]
    exact Lines_a free k way hw w

end Go.Proofs.Ytohnhgchoppgmaa
