/- The stacker's closed and end. -/
import Derived.Test.YtppgpejneninnaaStrutPut
import Derived.Test.YtppgpejneninnaaStrutEq
import Derived.RegionTactic
import Derived.BigRegion
namespace Go.Proofs.Ytppgpejneninnaa
open Go.RowKit
set_option linter.unusedSimpArgs false
set_option linter.unusedVariables false
attribute [local go_sem] cell?_ext frozen?_ext lt_size_ext fold_mx fold_mn

/-- A stacker's block, what owns its places, and what has been kept since w0. -/
structure Sk (w0 w : World) (g base : Nat) (v : Value) (al : List Int) (s : St) : Prop where
  gb : g < base
  bb : base ≤ w.heap.size
  blk : Blk w g 49 (s.cells v)
  own : w.ownsRow base 3 1 v al.length (al.map (Value.int .i64))
  keeps : Keeps (fun k => k = g ∨ base ≤ k) w0 w

section
variable {w0 w w' : World} {g base : Nat} {v : Value} {al : List Int} {s : St}
theorem Sk.then_ (h : Sk w0 w g base v al s) (hb : Below w.heap.size w w') : Sk w0 w' g base v al s :=
  ⟨h.gb, Nat.le_trans h.bb hb.size, h.blk.then_ hb, own_then h.own hb, h.keeps.then_ hb⟩
theorem Sk.drew (h : Sk w0 w g base v al s) : Sk w0 w.drew g base v al s := ⟨h.gb, h.bb, h.blk, h.own, h.keeps.drew⟩
theorem Sk.put (h : Sk w0 w g base v al s) (i : Nat) (u : Value) (s' : St) (e : s'.cells v = (s.cells v).setIfInBounds i u) :
    Sk w0 (w.setCell ⟨g, i, none⟩ u) g base v al s' :=
  ⟨h.gb, by have := h.bb; simpa [World.setCell] using this, by rw [e]; exact h.blk.put i u, ownsRow_setCell_below h.own h.gb u, h.keeps.put (.inl (.inl rfl)) u⟩
theorem Sk.glt (h : Sk w0 w g base v al s) : g < w.heap.size := h.blk.lt
theorem Sk.c (h : Sk w0 w g base v al s) (i : Nat) {u : Value} (e : (s.cells v)[i]? = some u) : w.cell? ⟨g, i, none⟩ = some u := (h.blk.cell i).trans e
end

set_option maxHeartbeats 1000000 in
theorem closed_walk (w0 : World) (g base : Nat) (v : Value) (al : List Int) (s : St) (w : World) (h : Sk w0 w g base v al s) :
    Calls Try.prog 25 #[.pointer (some ⟨g, 0, none⟩)] w fun e w' => e = .returned (.tuple #[]) ∧ Sk w0 w' g base v al { s with H := mx (addH s.y (addH s.su s.sd)) 0 } := by
  have hb : ∀ w, Sk w0 w g base v al s → Calls Try.prog 26 #[.pointer (some ⟨g, 0, none⟩)] w fun e w' => e = .returned (.int .i64 (addH s.y (addH s.su s.sd))) ∧ Below w.heap.size w w' :=
    fun w h => below_any g s.y s.su s.sd w h.glt (h.c 7 rfl) (h.c 8 rfl) (h.c 9 rfl)
  have HB := Lib.hid hb
  have HS := Lib.hid h
  clear hb h
  go_enter Try.func25, Try.ntmps25
  go_wp2_with fail
  refine (HB.out _ HS.out).mono ?_
  rintro e w1 ⟨rfl, hb1⟩
  have h1 := HS.out.then_ hb1
  have c5 : w1.cell? ⟨g, 5, none⟩ = some (.int .i64 s.H) := h1.c 5 rfl
  have fz := h1.blk.frozen
  have z := h1.glt
  have H1 := Lib.hid h1
  clear h1 hb1
  go_wp2
  go_end0
  exact ⟨rfl, H1.out.put 5 _ _ rfl⟩

/-- What is left of the strut at the end. -/
def endS (top bottom : Bool) (s : St) : St :=
  if s.stands = true then
    if bottom = true then { s with fu := s.su, fd := s.sd, H := mx s.y 0 } else { s with H := mx (addH s.y (addH s.su s.sd)) 0 }
  else if top = true then { s with hu := s.su, hd := s.sd, thr := bottom }
  else if bottom = true then { s with fu := s.su, fd := s.sd }
  else if s.su = 0 ∧ s.sd = 0 then s else { s with H := mx (addH s.y (addH s.su s.sd)) 0 }

set_option maxHeartbeats 4000000 in
theorem end_walk (w0 : World) (g base : Nat) (v : Value) (al : List Int) (s : St) (top bottom : Bool) (w : World) (h : Sk w0 w g base v al s) :
    Calls Try.prog 23 #[.pointer (some ⟨g, 0, none⟩), .bool top, .bool bottom] w fun e w' => e = .returned (.tuple #[]) ∧ Sk w0 w' g base v al (endS top bottom s) := by
  have hc : ∀ w, Sk w0 w g base v al s → Calls Try.prog 25 #[.pointer (some ⟨g, 0, none⟩)] w fun e w' => e = .returned (.tuple #[]) ∧ Sk w0 w' g base v al { s with H := mx (addH s.y (addH s.su s.sd)) 0 } :=
    fun w h => closed_walk w0 g base v al s w h
  have HC := Lib.hid hc
  have H0 := Lib.hid h
  have H1 := Lib.hid (h.then_ ((Below.refl _ w).alloc (Nat.le_refl _) (.cells #[.int .i64 0, .int .i64 0] 23)))
  obtain ⟨ats, hu, hd, fu, fd, H, thr, y, su, sd, stands⟩ := s
  have c1 : w.cell? ⟨g, 1, none⟩ = some (.int .i64 hu) := h.c 1 rfl
  have c2 : w.cell? ⟨g, 2, none⟩ = some (.int .i64 hd) := h.c 2 rfl
  have c3 : w.cell? ⟨g, 3, none⟩ = some (.int .i64 fu) := h.c 3 rfl
  have c4 : w.cell? ⟨g, 4, none⟩ = some (.int .i64 fd) := h.c 4 rfl
  have c5 : w.cell? ⟨g, 5, none⟩ = some (.int .i64 H) := h.c 5 rfl
  have c6 : w.cell? ⟨g, 6, none⟩ = some (.bool thr) := h.c 6 rfl
  have c7 : w.cell? ⟨g, 7, none⟩ = some (.int .i64 y) := h.c 7 rfl
  have c8 : w.cell? ⟨g, 8, none⟩ = some (.int .i64 su) := h.c 8 rfl
  have c9 : w.cell? ⟨g, 9, none⟩ = some (.int .i64 sd) := h.c 9 rfl
  have c10 : w.cell? ⟨g, 10, none⟩ = some (.bool stands) := h.c 10 rfl
  have fz := h.blk.frozen
  have z := h.glt
  have n1 : w.heap.size ≠ g := by omega
  have n2 : g ≠ w.heap.size := by omega
  clear h hc
  have kn := neq_strut
  cases stands
  · cases top
    · cases bottom
      · by_cases hz : su = 0 ∧ sd = 0
        · have hdz : decide (su = 0 ∧ sd = 0) = true := by simp [hz]
          have HE := Lib.hid (show endS false false ⟨ats, hu, hd, fu, fd, H, thr, y, su, sd, false⟩ = ⟨ats, hu, hd, fu, fd, H, thr, y, su, sd, false⟩ from by unfold endS; simp [hz])
          clear hz
          go_enter Try.func23, Try.ntmps23
          go_wp2_with fail
          go_quiet (fail)
          go_wp2_with fail
          go_end0
          rw [HE.out]
          exact ⟨rfl, H1.out.then_ (below_drawn (Below.refl _ _) _)⟩
        · have hdz : decide (su = 0 ∧ sd = 0) = false := by simp [hz]
          have HE := Lib.hid (show endS false false ⟨ats, hu, hd, fu, fd, H, thr, y, su, sd, false⟩ = ⟨ats, hu, hd, fu, fd, (mx (addH y (addH su sd)) 0), thr, y, su, sd, false⟩ from by unfold endS; simp [hz])
          clear hz
          go_enter Try.func23, Try.ntmps23
          go_wp2_with fail
          go_quiet (fail)
          go_wp2_with fail
          refine (HC.out _ (H1.out.then_ (below_drawn (Below.refl _ _) _))).mono ?_
          rintro e w5 ⟨rfl, h5⟩
          go_wp2_with fail
          go_end0
          rw [HE.out]
          exact ⟨rfl, h5⟩
      · have HE := Lib.hid (show endS false true ⟨ats, hu, hd, fu, fd, H, thr, y, su, sd, false⟩ = ⟨ats, hu, hd, su, sd, H, thr, y, su, sd, false⟩ from by unfold endS; simp)
        go_enter Try.func23, Try.ntmps23
        go_wp2
        go_end0
        rw [HE.out]
        exact ⟨rfl, ((H0.out.put 3 _ ⟨ats, hu, hd, su, fd, H, thr, y, su, sd, false⟩ rfl).put 4 _ ⟨ats, hu, hd, su, sd, H, thr, y, su, sd, false⟩ rfl).then_ ((Below.refl _ _).alloc (Nat.le_refl _) _)⟩
    · have HE := Lib.hid (show endS true bottom ⟨ats, hu, hd, fu, fd, H, thr, y, su, sd, false⟩ = ⟨ats, su, sd, fu, fd, H, bottom, y, su, sd, false⟩ from by unfold endS; simp)
      go_enter Try.func23, Try.ntmps23
      go_wp2
      go_end0
      rw [HE.out]
      exact ⟨rfl, (((H0.out.put 1 _ ⟨ats, su, hd, fu, fd, H, thr, y, su, sd, false⟩ rfl).put 2 _ ⟨ats, su, sd, fu, fd, H, thr, y, su, sd, false⟩ rfl).put 6 _ ⟨ats, su, sd, fu, fd, H, bottom, y, su, sd, false⟩ rfl).then_ ((Below.refl _ _).alloc (Nat.le_refl _) _)⟩
  · cases bottom
    · have HE := Lib.hid (show endS top false ⟨ats, hu, hd, fu, fd, H, thr, y, su, sd, true⟩ = ⟨ats, hu, hd, fu, fd, (mx (addH y (addH su sd)) 0), thr, y, su, sd, true⟩ from by unfold endS; simp)
      go_enter Try.func23, Try.ntmps23
      go_wp2_with fail
      refine (HC.out _ H1.out).mono ?_
      rintro e w5 ⟨rfl, h5⟩
      go_wp2_with fail
      go_end0
      rw [HE.out]
      exact ⟨rfl, h5⟩
    · have HE := Lib.hid (show endS top true ⟨ats, hu, hd, fu, fd, H, thr, y, su, sd, true⟩ = ⟨ats, hu, hd, su, sd, (mx y 0), thr, y, su, sd, true⟩ from by unfold endS; simp)
      go_enter Try.func23, Try.ntmps23
      go_wp2_with fail
      go_region
      all_goals
        go_wp2
        go_end0
        rw [HE.out]
        exact ⟨rfl, ((((H0.out.put 3 _ ⟨ats, hu, hd, su, fd, H, thr, y, su, sd, true⟩ rfl).put 4 _ ⟨ats, hu, hd, su, sd, H, thr, y, su, sd, true⟩ rfl).put 5 _ ⟨ats, hu, hd, su, sd, (mx y 0), thr, y, su, sd, true⟩ rfl).then_ ((Below.refl _ _).alloc (Nat.le_refl _) _)).drew⟩

end Go.Proofs.Ytppgpejneninnaa
