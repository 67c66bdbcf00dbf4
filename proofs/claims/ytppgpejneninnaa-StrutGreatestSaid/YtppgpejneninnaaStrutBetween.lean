/- StrutBetween, walked. -/
import Derived.Test.YtppgpejneninnaaStrutClosed
namespace Go.Proofs.Ytppgpejneninnaa
open Go.RowKit
set_option linter.unusedSimpArgs false
set_option linter.unusedVariables false
attribute [local go_sem] cell?_ext frozen?_ext lt_size_ext

set_option maxHeartbeats 8000000 in
theorem StrutBetween_walk (l : List Pt) (ao : Option Addr) (cap : Nat) (i : Int) (top bottom : Bool) (w : World) (hl : l.length ≤ 9223372036854775807) (hp : PartsAt w w.heap.size ao l) :
    Calls Try.prog 4 #[.slice ao l.length cap, .int .i64 i, .bool top, .bool bottom] w fun e w' => e = .returned (.bool true) ∧ Below w.heap.size w w' := by
  by_cases h40 : 40 < l.length
  · clear hp
    go_enter Try.func4, Try.ntmps4
    go_wp2_with fail
    refine (known_any _).mono ?_
    rintro e w1 ⟨rfl, hb1⟩
    have H1 := Lib.hid hb1
    clear hb1
    go_wp2_with fail
    go_ret
    exact ⟨rfl, H1.out⟩
  · by_cases h0 : i < 0
    · clear hp
      go_enter Try.func4, Try.ntmps4
      go_wp2_with fail
      refine (known_any _).mono ?_
      rintro e w1 ⟨rfl, hb1⟩
      have H1 := Lib.hid hb1
      clear hb1
      go_wp2_with fail
      go_ret
      exact ⟨rfl, H1.out⟩
    · by_cases h1 : (l.length : Int) - 1 ≤ i
      · clear hp
        go_enter Try.func4, Try.ntmps4
        go_wp2_with fail
        refine (known_any _).mono ?_
        rintro e w1 ⟨rfl, hb1⟩
        have H1 := Lib.hid hb1
        clear hb1
        go_wp2_with fail
        go_ret
        exact ⟨rfl, H1.out⟩
      · obtain ⟨k, rfl⟩ := Int.eq_ofNat_of_zero_le (show 0 ≤ i by omega)
        have hk : k + 1 < l.length := by omega
        obtain ⟨p, hpe⟩ : ∃ p, p = l[k] := ⟨_, rfl⟩
        obtain ⟨q, hqe⟩ : ∃ q, q = l[k + 1] := ⟨_, rfl⟩
        have hpl : l[k]? = some p := by rw [hpe]; exact List.getElem?_eq_getElem _
        have hql : l[k + 1]? = some q := by rw [hqe]; exact List.getElem?_eq_getElem _
        clear hpe hqe
        obtain ⟨b, off, rfl, hb, hpa⟩ := hp k p hpl
        obtain ⟨b', off', he, hb', hqa⟩ := hp (k + 1) q hql
        injection he with he
        injection he with e1 e2 _
        subst e1 e2
        have p5 := hpa.c5
        have q5 := hqa.c5
        have zb : b < w.heap.size := hb
        obtain ⟨ptu, ptd, pbu, pbd, ph, pthr⟩ := p
        obtain ⟨qtu, qtd, qbu, qbd, qh, qthr⟩ := q
        simp only at p5 q5
        have HPL := Lib.hid hpl
        have HQL := Lib.hid hql
        have HPA := Lib.hid hpa
        have HQA := Lib.hid hqa
        have HP := Lib.hid hp
        clear hpl hql hpa hqa hp
        cases pthr
        · cases qthr
          · obtain ⟨A, B, hA, hB, hAB⟩ := between_plain top l k _ _ HPL.out HQL.out rfl
            simp only at hAB
            subst hAB
            go_enter Try.func4, Try.ntmps4
            go_wp2_with fail
            refine (Put_vals w l _ cap top bottom (by omega) HP.out).mono ?_
            rintro e w1 ⟨C, cp, s, hs, rfl, hat, hb1⟩
            obtain ⟨g, o2, rfl, a0⟩ := hat k A hA
            obtain ⟨g', o2', he, a1⟩ := hat (k + 1) _ hB
            injection he with he
            injection he with e1 e2 _
            subst e1 e2
            have hpa := HPA.out.kept fun j => hb1.cell (p := ⟨b, j, none⟩) zb
            have hqa := HQA.out.kept fun j => hb1.cell (p := ⟨b, j, none⟩) zb
            have x2 := hpa.c2
            have x3 := hpa.c3
            have x4 := hpa.c4
            have y0 := hqa.c0
            have y1 := hqa.c1
            simp only at x2 x3 x4 y0 y1
            have z1 : b < w1.heap.size := World.block_lt_of_cell? w1 _ x2
            have z2 : g < w1.heap.size := World.block_lt_of_cell? w1 _ a0
            have n1 : w1.heap.size ≠ b := by omega
            have n2 : w1.heap.size ≠ g := by omega
            have HB1 := Lib.hid hb1
            clear hpa hqa hb1 hat hA hB hs p5 q5
            go_wp2_with fail
            refine wp_region_ext (by kernel_rfl) (by kernel_rfl) ?_
            repeat (go_big_quiet_step ((go_at_call 16; exact quiet_ext_same (RAdd_any _ _ _))))
            refine wpQuiet_nil ?_
            rintro _ ⟨u, rfl⟩
            go_wp2_with fail
            refine wp_region_ext2 (by kernel_rfl) (by kernel_rfl) ?_
            repeat (go_big_quiet_step ((first
              | (go_at_call 16; exact quiet_ext_same (RAdd_any _ _ _))
              | (go_at_call 8; exact quiet_ext (Join_any _ _ _ _ _))
              | (go_at_call 10; exact quiet_ext (Worth_any _ _ _))
              | (go_at_call 14; exact quiet_ext (known_any _)))))
            refine wpQuiet_nil ?_
            rintro _ ⟨u2, rfl⟩
            go_wp2_with fail
            go_ret
            refine ⟨rfl, ?_⟩
            repeat (first | with_reducible exact HB1.out | with_reducible exact Below.refl _ _ | with_reducible refine below_set ?_ (by first | (simp; done) | (simp; omega)) _ | with_reducible refine below_alloc ?_ _ | with_reducible refine below_to_ext ?_ _ | with_reducible refine below_drawn ?_ _ | with_reducible refine Below.drew ?_)
          · go_enter Try.func4, Try.ntmps4
            go_wp2_with fail
            refine (known_any _).mono ?_
            rintro e w1 ⟨rfl, hb1⟩
            have H1 := Lib.hid hb1
            clear hb1
            go_wp2_with fail
            go_ret
            exact ⟨rfl, H1.out⟩
        · go_enter Try.func4, Try.ntmps4
          go_wp2_with fail
          refine (known_any _).mono ?_
          rintro e w1 ⟨rfl, hb1⟩
          have H1 := Lib.hid hb1
          clear hb1
          go_wp2_with fail
          go_ret
          exact ⟨rfl, H1.out⟩


end Go.Proofs.Ytppgpejneninnaa
