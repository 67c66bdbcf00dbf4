/- The program's digits of a number: the walk. -/
import Derived.Test.YtmicgfpiknibhaaMem
import Derived.Test.YtmicgfpiknibhaaSmall
import Derived.Deep.OwnRows
import Derived.Laws.BytesArg
namespace Go.Proofs.Ytmicgfpiknibhaa
open Go.RowKit
set_option linter.unusedSimpArgs false
set_option linter.unusedVariables false

/-- The digits of a number, at least so many, as bytes. -/
def be (least n : Nat) : List Int := if 0 < n ∨ 0 < least then be (least - 1) (n / 10) ++ [48 + ((n % 10 : Nat) : Int)] else []
termination_by n + least
decreasing_by omega

theorem be_step {least n : Nat} (h : 0 < n ∨ 0 < least) : be least n = be (least - 1) (n / 10) ++ [48 + ((n % 10 : Nat) : Int)] := by rw [be, if_pos h]
theorem be_end {least n : Nat} (h : ¬ (0 < n ∨ 0 < least)) : be least n = [] := by rw [be, if_neg h]

theorem byte_info : (Try.prog.info? 5).map (fun i => (i.zero, i.size, i.bytes)) = some (some (.int .u8 0), 1, 1) := by kernel_rfl

theorem getD_at (xs : List Int) (i : Nat) (h : i < xs.length) : xs.getD i 0 = xs[i] := by simp [List.getD, h]

def sliceLen : Value → Nat
  | .slice _ l _ => l
  | _ => 0

set_option maxHeartbeats 4000000 in
theorem digits_walk (n least : Nat) (hn : n ≤ 1073741824) (hl : least ≤ 1000) (w : World) :
    Calls Try.prog 55 #[.int .i64 n, .int .i64 least] w fun e w' => e = .returned (.string (strOfNums (be least n))) ∧ Below w.heap.size w w' := by
  obtain ⟨i0, hi, hz0, hz1, hz2⟩ := info_parts byte_info
  go_enter Try.func55, Try.ntmps55
  go_wp2_with fail
  go_loopw [0, 5] (fun a v wr => ∃ (m : Nat) (ao : Option Addr) (cap : Nat) (xs : List Int), a = .int .i64 m ∧ v = .slice ao xs.length cap ∧ wr.ownsRow w.heap.size 5 1 (.slice ao xs.length cap) xs.length (xs.map (Value.int .u8)) ∧ Below w.heap.size w wr ∧
      be least n = be (least - xs.length) m ++ xs.reverse ∧ xs.length + m ≤ n + least) (fun a v _ => (intOf a).toNat + (least - sliceLen v))
  case atStart => exact ⟨n, _, _, [], rfl, rfl, World.ownsRow_nil _ _ _ _, Below.refl _ _, by simp, by simp⟩
  case round =>
    obtain ⟨m, ao, cap, xs, rfl, rfl, hown, hb, hbe, hsz⟩ := hrel
    by_cases hgo : 0 < m ∨ xs.length < least
    · have hbs := be_step (least := least - xs.length) (n := m) (by omega)
      rw [hbs] at hbe
      by_cases hm : 0 < (m : Int)
      · have HBE := Lib.hid hbe
        have HB := Lib.hid hb
        have ho2 := Lib.hid (hown.alloc (.cells #[.int .u8 (48 + ((m % 10 : Nat) : Int))] 5))
        have hnx : w.heap.size ≤ (wr.alloc (.cells #[.int .u8 (48 + ((m % 10 : Nat) : Int))] 5)).heap.size := by have := hb.size; simp; omega
        have HNX := Lib.hid hnx
        have hr10 : ((m : Int) % 10) = ((m % 10 : Nat) : Int) := by omega
        have hlt10 : m % 10 < 10 := by omega
        generalize hd : m % 10 = d at *
        clear hown hb hbe hnx hbs hd
        go_wp2_with ((at_builtin; refine wpList_append_own_at _ rfl (.tmp 16) (.tmp 21) _ rfl w.heap.size 5 i0 (.int .u8 0) 1 1 Try.underlying41 hi hz0 hz1 hz2 rfl (by decide) _ _ _ rfl ho2.out ⟨wr.heap.size, 0, none⟩ 1 1 [.int .u8 (48 + (d : Int))] rfl rfl ?c1 ?c2 ?c3 ?c4 HNX.out ?_))
        case c1 =>
          intro j u hj
          match j, hj with
          | 0, hj => simp at hj; subst hj; simp [Addr.add]
        case c2 => intro u hu; simp at hu; subst hu; rfl
        case c3 => unfold maxLen; omega
        case c4 => omega
        intro v' w3 hown3 hg3 _ _
        obtain ⟨r3, cap3, hv3, -, -⟩ := hown3.form (by omega)
        subst hv3
        have hb3 : Below w.heap.size w w3 := (HB.out.alloc HB.out.size _).grown hg3 HNX.out (fun k hk => (ho2.out.lt k hk).1)
        have hown4 : w3.ownsRow w.heap.size 5 1 (.slice (some ⟨r3, 0, none⟩) (xs.length + 1) cap3) (xs ++ [(48 + (d : Int))]).length ((xs ++ [(48 + (d : Int))]).map (Value.int .u8)) := by simpa using hown3
        have HO4 := Lib.hid hown4
        have HB3 := Lib.hid hb3
        clear hown3 hg3 hown4 hb3
        go_wp2_with fail
        go_roundw
        case rel =>
          refine ⟨m / 10, some ⟨r3, 0, none⟩, cap3, xs ++ [(48 + (d : Int))], by go_num, by simp, by simpa using HO4.out, HB3.out, ?_, ?_⟩
          · rw [HBE.out, List.length_append, List.length_singleton, Nat.sub_add_eq, List.reverse_append]; simp
          · simp only [List.length_append, List.length_singleton]; omega
        case measure => simp [intOf, sliceLen]; omega
      · have hm0 : m = 0 := by omega
        subst hm0
        have hlz : xs.length < least := by omega
        have hbe : be least n = be (least - xs.length - 1) 0 ++ [48] ++ xs.reverse := hbe
        have HBE := Lib.hid hbe
        have HB := Lib.hid hb
        have ho2 := Lib.hid (hown.alloc (.cells #[.int .u8 (48)] 5))
        have hnx : w.heap.size ≤ (wr.alloc (.cells #[.int .u8 (48)] 5)).heap.size := by have := hb.size; simp; omega
        have HNX := Lib.hid hnx
        clear hown hb hbe hnx hbs hm hgo
        go_wp2_with ((at_builtin; refine wpList_append_own_at _ rfl (.tmp 16) (.tmp 21) _ rfl w.heap.size 5 i0 (.int .u8 0) 1 1 Try.underlying41 hi hz0 hz1 hz2 rfl (by decide) _ _ _ rfl ho2.out ⟨wr.heap.size, 0, none⟩ 1 1 [.int .u8 (48)] rfl rfl ?c1 ?c2 ?c3 ?c4 HNX.out ?_))
        case c1 =>
          intro j u hj
          match j, hj with
          | 0, hj => simp at hj; subst hj; simp [Addr.add]
        case c2 => intro u hu; simp at hu; subst hu; rfl
        case c3 => unfold maxLen; omega
        case c4 => omega
        intro v' w3 hown3 hg3 _ _
        obtain ⟨r3, cap3, hv3, -, -⟩ := hown3.form (by omega)
        subst hv3
        have hb3 : Below w.heap.size w w3 := (HB.out.alloc HB.out.size _).grown hg3 HNX.out (fun k hk => (ho2.out.lt k hk).1)
        have hown4 : w3.ownsRow w.heap.size 5 1 (.slice (some ⟨r3, 0, none⟩) (xs.length + 1) cap3) (xs ++ [(48)]).length ((xs ++ [(48)]).map (Value.int .u8)) := by simpa using hown3
        have HO4 := Lib.hid hown4
        have HB3 := Lib.hid hb3
        clear hown3 hg3 hown4 hb3
        go_wp2_with fail
        go_roundw
        case rel =>
          refine ⟨0, some ⟨r3, 0, none⟩, cap3, xs ++ [(48)], by go_num, by simp, by simpa using HO4.out, HB3.out, ?_, ?_⟩
          · rw [HBE.out, List.length_append, List.length_singleton, Nat.sub_add_eq, List.reverse_append]; simp
          · simp only [List.length_append, List.length_singleton]; omega
        case measure => simp [intOf, sliceLen]; omega
    · have hm0 : m = 0 := by omega
      subst hm0
      have hle : ¬ xs.length < least := by omega
      have hbe : be least n = xs.reverse := by rw [hbe, be_end (by omega), List.nil_append]
      have hmk := run_make_row' (P := Try.prog) 41 5 (.int .u8 0) 1 Try.underlying41 byte_info rfl .i64 .i64 xs.length (by omega) (by omega)
      have HBE := Lib.hid hbe
      have HO := Lib.hid hown
      have HB := Lib.hid hb
      clear hbe hown hb hgo
      go_wp2_with fail
      obtain ⟨wq, rfl⟩ : ∃ wq, wq = wr := ⟨_, rfl⟩
      have hnew := World.rowIs_made wq (.int .u8 0) xs.length 5
      have HO1 := Lib.hid (HO.out.alloc (.cells (madeCells #[.int .u8 0] xs.length) 5))
      have HB1 := Lib.hid (HB.out.alloc HB.out.size (.cells (madeCells #[.int .u8 0] xs.length) 5))
      have hgb := HB.out.size
      have hne : ∀ g', (Value.slice ao xs.length cap).ownBlock = some g' → g' ≠ wq.heap.size := fun g' hg' e => by have := (HO.out.lt g' hg').2; omega
      have HNE := Lib.hid hne
      have HNEW := Lib.hid hnew
      clear hmk hnew hne
      go_loopw [7, 30] (fun i c w5 => ∃ k : Nat, c = .int .i64 k ∧ k ≤ xs.length ∧ w5.ownsRow w.heap.size 5 1 (.slice ao xs.length cap) xs.length (xs.map (Value.int .u8)) ∧
          w5.rowIs wq.heap.size 5 xs.length (fun j => if xs.length - 1 - j < k then .int .u8 (xs.getD (xs.length - 1 - j) 0) else .int .u8 0) ∧ Below w.heap.size w w5) (fun _ c _ => xs.length - (intOf c).toNat)
      case atStart => exact ⟨0, rfl, Nat.zero_le _, HO1.out, HNEW.out.congr (fun j hj => by simp), HB1.out⟩
      case round =>
        obtain ⟨k, rfl, hk, ho5, hr5, hb5⟩ := hrel
        by_cases hlt : k < xs.length
        · obtain ⟨g, cap', hv, -, -⟩ := ho5.form (by omega)
          simp only [Value.slice.injEq, true_and] at hv
          obtain ⟨rfl, rfl⟩ := hv
          have c5 := ho5.cellAt k (by omega)
          rw [List.getElem?_map, List.getElem?_eq_getElem hlt] at c5
          simp only [Option.map_some] at c5
          have hq : ((xs.length : Int) - 1 - (k : Int)) = ((xs.length - 1 - k : Nat) : Int) := by omega
          have hql : xs.length - 1 - k < xs.length := by omega
          have hqq : xs.length - 1 - (xs.length - 1 - k) = k := by omega
          generalize hqd : xs.length - 1 - k = q at *
          have fz := hr5.frozen
          have c6 := hr5.cell hql
          have hgl := hr5.lt
          have HQ := Lib.hid hqd
          have HQQ := Lib.hid hqq
          have HO5 := Lib.hid ho5
          have HR5 := Lib.hid hr5
          have HB5 := Lib.hid hb5
          clear ho5 hr5 hb5 hqd hqq
          go_wp2_with fail
          refine ⟨⟨k + 1, by go_num, by omega, ?_, ?_, HB5.out.setCell hgb _⟩, by simp [intOf]; omega⟩
          · exact own_of_block HO5.out (fun j hj => Below.heap_setCell _ _ _ j (HNE.out j hj))
          · refine (HR5.out.set q _).congr (fun j hj => ?_)
            have e1 := HQ.out
            have e2 := HQQ.out
            by_cases hjq : j = q
            · subst hjq
              rw [if_pos rfl, if_pos (by omega), e2, getD_at _ _ hlt]
            · rw [if_neg hjq]
              by_cases h7 : xs.length - 1 - j < k
              · rw [if_pos h7, if_pos (by omega)]
              · rw [if_neg h7, if_neg (by omega)]
        · obtain rfl : k = xs.length := by omega
          have HO5 := Lib.hid ho5
          have HR5 := Lib.hid hr5
          have HB5 := Lib.hid hb5
          have hcv := run_convert_bytes_arg (P := Try.prog) wr 41 5 Try.underlying41 Try.underlying5 wq.heap.size 0 xs.length xs.length xs.reverse (by simp) (fun i hi => by
            rw [Nat.zero_add, hr5.cell hi, if_pos (by omega), getD_at _ _ (by omega), getD_at _ _ (by simpa using hi), List.getElem_reverse]) 9 Try.underlying9
          clear ho5 hr5 hb5
          go_wp2_with fail
          go_ret
          rw [HBE.out]
          exact ⟨rfl, HB5.out⟩

end Go.Proofs.Ytmicgfpiknibhaa
