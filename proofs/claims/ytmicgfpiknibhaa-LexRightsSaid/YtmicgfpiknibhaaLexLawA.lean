/- The law LexRights: its walk. -/
import Derived.Test.YtmicgfpiknibhaaLexKnown
namespace Go.Proofs.Ytmicgfpiknibhaa
open Go.RowKit
set_option linter.unusedSimpArgs false
set_option linter.unusedVariables false
attribute [local go_sem] cell?_ext frozen?_ext lt_size_ext

set_option maxHeartbeats 4000000 in
theorem Rights_walk (t : Tk) (w : World) (hg : Gm w) :
    Calls Try.prog 3 #[t.val] w fun e w' => e = .returned (.bool true) ∧ Below w.heap.size w w' := by
  have hsz := strOf_size t.x
  have HG := Lib.hid (hg.then_ (below_alloc (Below.refl w.heap.size w) (.cells #[.int .i64 t.k, .string (strOf t.x), .int .i64 t.n] 23)))
  have hnew := Blk.new w 23 #[.int .i64 t.k, .string (strOf t.x), .int .i64 t.n]
  by_cases hx : t.x.length ≤ 300
  · have d : decide ((300 : Int) < ((strOf t.x).size : Int)) = false := decide_eq_false (by omega)
    have hR := fun w hg => Right_any t (by omega) w hg
    have hRR := fun w => RRight_any t (by omega) w
    unfold Tk.val at hR hRR ⊢
    cases hr : rightT t
    all_goals
      rw [hr] at hR hRR
      have HR := Lib.hid hR
      have HRR := Lib.hid hRR
      clear hR hRR hsz hx hg hr
      go_enter Try.func3, Try.ntmps3
      go_wp2_with fail
      refine at_any (fun wx => Blk wx w.heap.size 23 #[.int .i64 t.k, .string (strOf t.x), .int .i64 t.n] ∧ Gm wx ∧ Below w.heap.size w wx) ⟨hnew, HG.out, below_alloc (Below.refl _ _) _⟩ ?_
      rintro wx ⟨hb, hgx, hbl⟩
      have c0 : wx.cell? ⟨w.heap.size, 0, none⟩ = some (.int .i64 t.k) := hb.cell 0
      have c1 : wx.cell? ⟨w.heap.size, 1, none⟩ = some (.string (strOf t.x)) := hb.cell 1
      have c2 : wx.cell? ⟨w.heap.size, 2, none⟩ = some (.int .i64 t.n) := hb.cell 2
      have cl := hb.lt
      have HGX := Lib.hid hgx
      have HBL := Lib.hid hbl
      clear hb hgx hbl hnew
      refine wp_region_ext (by kernel_rfl) (by kernel_rfl) ?_
      repeat (go_big_quiet_step (first | (go_at_call 9; exact quiet_ext (HR.out _ (HGX.out.then_ (below_ext _ _)))) | (go_at_call 10; exact quiet_ext (HRR.out _)) | (go_at_call 8; exact quiet_ext (known_any _ (HGX.out.then_ (below_ext _ _))))))
      refine wpQuiet_nil ?_
      rintro _ ⟨u, rfl⟩
      go_wp2_with fail
      go_ret
      exact ⟨rfl, below_to_ext HBL.out u⟩
  · have d : decide ((300 : Int) < ((strOf t.x).size : Int)) = true := decide_eq_true (by omega)
    unfold Tk.val
    clear hsz hx hg
    go_enter Try.func3, Try.ntmps3
    go_wp2_with fail
    refine at_any (fun wx => Blk wx w.heap.size 23 #[.int .i64 t.k, .string (strOf t.x), .int .i64 t.n] ∧ Gm wx ∧ Below w.heap.size w wx) ⟨hnew, HG.out, below_alloc (Below.refl _ _) _⟩ ?_
    rintro wx ⟨hb, hgx, hbl⟩
    have c0 : wx.cell? ⟨w.heap.size, 0, none⟩ = some (.int .i64 t.k) := hb.cell 0
    have c1 : wx.cell? ⟨w.heap.size, 1, none⟩ = some (.string (strOf t.x)) := hb.cell 1
    have c2 : wx.cell? ⟨w.heap.size, 2, none⟩ = some (.int .i64 t.n) := hb.cell 2
    have cl := hb.lt
    have HGX := Lib.hid hgx
    have HBL := Lib.hid hbl
    clear hb hgx hbl hnew
    refine wp_region_ext (by kernel_rfl) (by kernel_rfl) ?_
    repeat (go_big_quiet_step (first | (go_at_call 8; exact quiet_ext (known_any _ (HGX.out.then_ (below_ext _ _))))))
    refine wpQuiet_nil ?_
    rintro _ ⟨u, rfl⟩
    go_wp2_with fail
    go_ret
    exact ⟨rfl, below_to_ext HBL.out u⟩
end Go.Proofs.Ytmicgfpiknibhaa
