/- The library's stable sort over claims: the blocks, doubled; the whole. -/
import Derived.Test.YtndpblgedpdjdaaSymC
import Derived.Test.YtndpblgedpdjdaaInsert
namespace Go.Proofs.Ytndpblgedpdjdaa
open Go.Shelf Go.RowKit Go.Lib Go.Sort
set_option linter.unusedSimpArgs false
set_option linter.unusedVariables false

set_option maxHeartbeats 8000000 in
set_option maxRecDepth 1000000 in
theorem stable_any {L : Int × Int → Int × Int → Bool} (hL : SWO L) (blk off cap : Nat) (d0 d : Array (Int × Int)) (w0 w : World) (R : Row2 w0 blk off d0) (hs : d0.size = d.size) (S : SW2 w0 blk off d w)
    (hsz : d.size < 1073741824) (hp : ∀ x y, x < y → y < d.size → ltOf cfC d[y]! d[x]! = L d[y]! d[x]!) :
    Calls Try.prog 58 #[.slice (some ⟨blk, off, none⟩) d.size cap, .int .i64 d.size, CMP] w fun e w' =>
      e = .returned (.tuple #[]) ∧ ∃ d', SW2 w0 blk off d' w' ∧ PermIn 0 d.size d d' ∧ SortedIn L 0 d.size d' := by
  have S0 : Aside (SW2 w0 blk off d w) := S
  have HL0 : Hid (St.Laid (ltOf cfC) L d.size 20 0 d) := Lib.hid (St.Laid.start (by decide) hp)
  have HP0 := Lib.hid (permIn_refl d 0 d.size)
  have HS := Lib.hid hs
  have HM := Lib.hid (symMerge_all hL blk off cap d0 w0 R (by omega))
  clear S hp hs
  obtain ⟨n, hn⟩ : ∃ n, n = d.size := ⟨_, rfl⟩
  rw [← hn] at HL0 HP0 hsz ⊢
  have HN := Lib.hid hn
  clear hn
  go_enter Try.func58, Try.ntmps58
  go_wp2
  go_loopg [7, 8] n (fun kx v7 v8 wr => ∃ (a e : Nat) (dk : Array (Int × Int)), v7 = .int .i64 a ∧ v8 = .int .i64 e ∧ e = a + 20 ∧ a ≤ n ∧ n - a ≤ kx ∧ Aside (SW2 w0 blk off dk wr) ∧
    Hid (St.Laid (ltOf cfC) L n 20 a dk) ∧ Hid (PermIn 0 n d dk))
  case atStart => exact ⟨0, 20, d, rfl, rfl, rfl, Nat.zero_le _, by omega, S0, HL0, HP0⟩
  case round =>
    clear S0 HL0 HP0
    obtain ⟨a, e, dk, rfl, rfl, he, han, hkx, S1, HLA, HP⟩ := hrel
    have HE := Lib.hid he
    have hds : dk.size = n := HP.out.1.trans HN.out.symm
    have hae : a ≤ e := by omega
    by_cases hle : e ≤ n
    · have hlz : (e : Int) ≤ (n : Int) := by omega
      have hag := St.insertionSort_agree (lt := ltOf cfC) hL dk a e hae (by omega) (fun x y q1 q2 q3 => HLA.out.pairs x y q1 q2 (by omega))
      have hcall := insertion_any blk off cap a e d0 dk w0 wr R (by rw [HS.out, hds]; exact HN.out.symm) S1.out hae (by omega) (by omega)
      generalize insertionSort (ltOf cfC) dk a e = dk2 at hag hcall
      have hna : a < n := by omega
      have HNEXT : Hid (St.Laid (ltOf cfC) L n 20 e dk2 ∧ PermIn 0 n d dk2) := Lib.hid (by
        refine ⟨?_, permIn_trans _ _ _ _ _ HP.out (permIn_mono _ _ _ _ _ _ (Nat.zero_le _) hle (by omega) hag.1)⟩
        subst he
        exact HLA.out.step (by decide) (by omega) hle hag.1 hag.2)
      rw [hds] at hcall
      have HC := Lib.hid hcall
      clear hcall hag S1 he hds
      go_wp2_with fail
      refine (HC.out).mono ?_
      rintro e1 w1 ⟨rfl, s1⟩
      have T1 : Aside _ := s1
      clear s1
      go_wp2_with fail
      go_roundg (n - e)
      case measure => have := HE.out; omega
      case rel => exact ⟨e, e + 20, dk2, rfl, by go_num, rfl, hle, Nat.le_refl _, T1, Lib.hid HNEXT.out.1, Lib.hid HNEXT.out.2⟩
    · have hlz : ¬ (e : Int) ≤ (n : Int) := by omega
      have hag := St.insertionSort_agree (lt := ltOf cfC) hL dk a n han (by omega) (fun x y q1 q2 q3 => HLA.out.pairs x y q1 q2 q3)
      have hcall := insertion_any blk off cap a n d0 dk w0 wr R (by rw [HS.out, hds]; exact HN.out.symm) S1.out han (by omega) (by omega)
      generalize insertionSort (ltOf cfC) dk a n = dk2 at hag hcall
      have HB : Hid (St.Blocks (ltOf cfC) L n 20 dk2) := Lib.hid (HLA.out.last (by omega) han (by omega) hag.1 hag.2)
      have HP2 : Hid (PermIn 0 n d dk2) := Lib.hid (permIn_trans _ _ _ _ _ HP.out (permIn_mono _ _ _ _ _ _ (Nat.zero_le _) (Nat.le_refl _) (by omega) hag.1))
      rw [hds] at hcall
      have HC := Lib.hid hcall
      clear hcall hag S1 he hds HLA HP
      go_wp2_with fail
      refine (HC.out).mono ?_
      rintro e1 w1 ⟨rfl, s1⟩
      have T1 : Aside _ := s1
      clear s1 HC
      go_wp2_with fail
      go_loopg [6] n (fun kx v6 wr => ∃ (s : Nat) (dk : Array (Int × Int)), v6 = .int .i64 s ∧ 0 < s ∧ s ≤ 2147483648 ∧ n - s ≤ kx ∧ Aside (SW2 w0 blk off dk wr) ∧ Hid (St.Blocks (ltOf cfC) L n s dk) ∧ Hid (PermIn 0 n d dk))
      case atStart => exact ⟨20, dk2, rfl, by decide, by decide, by omega, T1, HB, HP2⟩
      case round =>
        clear T1 HB HP2
        obtain ⟨s, dk, rfl, hs0, hsb, hkx2, S1, HB, HP⟩ := hrel
        by_cases hsn : s < n
        · have hsz2 : (s : Int) < (n : Int) := by omega
          have HH : Hid (St.Half (ltOf cfC) L n s 0 dk) := Lib.hid (St.Half.start hs0 HB.out)
          clear HB
          go_wp2_with fail
          go_loopg [7, 8] n (fun kx v7 v8 wr => ∃ (a e : Nat) (dj : Array (Int × Int)), v7 = .int .i64 a ∧ v8 = .int .i64 e ∧ e = a + 2 * s ∧ a ≤ n ∧ n - a ≤ kx ∧ Aside (SW2 w0 blk off dj wr) ∧
            Hid (St.Half (ltOf cfC) L n s a dj) ∧ Hid (PermIn 0 n d dj))
          case atStart => exact ⟨0, 2 * s, dk, rfl, by first | rfl | go_num | (congr 1; omega), by omega, Nat.zero_le _, by omega, S1, HH, HP⟩
          case round =>
            clear S1 HH HP
            obtain ⟨a, e, dj, rfl, rfl, he, han, hkx3, S1, HH, HP⟩ := hrel
            have HE := Lib.hid he
            have hds : dj.size = n := HP.out.1.trans HN.out.symm
            obtain ⟨m, hm⟩ : ∃ m, m = a + s := ⟨_, rfl⟩
            have qm : (a : Int) + (s : Int) = (m : Int) := by omega
            have ham : a < m := by omega
            by_cases hle : e ≤ n
            · have hlz : (e : Int) ≤ (n : Int) := by omega
              have hme : m < e := by omega
              have hcall := HM.out (e - a) a m e dj wr (Nat.le_refl _) ham hme (by omega) (by rw [HS.out, hds]; exact HN.out.symm) S1.out (hm ▸ HH.out.halves hs0 hle (by omega) (by omega))
              rw [hds] at hcall
              have HC := Lib.hid hcall
              have hnx : a < n := by omega
              clear hcall S1 he hds hm
              go_wp2_with fail
              refine (HC.out).mono ?_
              rintro e1 w1 ⟨rfl, dj2, s1, p1, o1⟩
              have T1 : Aside (SW2 w0 blk off dj2 w1) := s1
              have HNEXT : Hid (St.Half (ltOf cfC) L n s e dj2 ∧ PermIn 0 n d dj2) := Lib.hid (by
                refine ⟨?_, permIn_trans _ _ _ _ _ HP.out (permIn_mono _ _ _ _ _ _ (Nat.zero_le _) hle (by rw [HP.out.1, ← HN.out]; exact Nat.le_refl _) p1)⟩
                have := HE.out
                subst this
                exact HH.out.step hs0 (by rw [HP.out.1, ← HN.out]; exact Nat.le_refl _) hle p1 o1)
              clear s1 p1 o1 HC
              go_wp2_with fail
              go_roundg (n - e)
              case measure => have := HE.out; omega
              case rel => exact ⟨e, e + 2 * s, dj2, rfl, by first | rfl | go_num | (congr 1; omega), rfl, hle, Nat.le_refl _, T1, Lib.hid HNEXT.out.1, Lib.hid HNEXT.out.2⟩
            · have hlz : ¬ (e : Int) ≤ (n : Int) := by omega
              by_cases hmn : m < n
              · have hmz : (m : Int) < (n : Int) := by omega
                have hcall := HM.out (n - a) a m n dj wr (Nat.le_refl _) ham hmn (by omega) (by rw [HS.out, hds]; exact HN.out.symm) S1.out (hm ▸ HH.out.halves hs0 (Nat.le_refl _) (by omega) (by omega))
                rw [hds] at hcall
                have HC := Lib.hid hcall
                have hlt2 : n < a + 2 * s := by omega
                clear hcall S1 he hds hm
                go_wp2_with fail
                refine (HC.out).mono ?_
                rintro e1 w1 ⟨rfl, dj2, s1, p1, o1⟩
                have T1 : Aside (SW2 w0 blk off dj2 w1) := s1
                have HNEXT : Hid (St.Blocks (ltOf cfC) L n (2 * s) dj2 ∧ PermIn 0 n d dj2) := Lib.hid
                  ⟨HH.out.last hs0 (by rw [HP.out.1, ← HN.out]; exact Nat.le_refl _) han hlt2 p1 o1, permIn_trans _ _ _ _ _ HP.out (permIn_mono _ _ _ _ _ _ (Nat.zero_le _) (Nat.le_refl _) (by rw [HP.out.1, ← HN.out]; exact Nat.le_refl _) p1)⟩
                clear s1 p1 o1 HC
                go_wp2_with fail
                go_roundg (n - 2 * s)
                case measure => omega
                case rel => exact ⟨2 * s, dj2, by first | rfl | go_num | (congr 1; omega), by omega, by omega, Nat.le_refl _, T1, Lib.hid HNEXT.out.1, Lib.hid HNEXT.out.2⟩
              · have hmz : ¬ (m : Int) < (n : Int) := by omega
                have HNEXT : Hid (St.Blocks (ltOf cfC) L n (2 * s) dj) := Lib.hid (HH.out.last hs0 (by omega) han (by omega) (permIn_refl dj a n) (HH.out.tail (by omega)))
                clear he hds hm
                go_wp2_with fail
                go_roundg (n - 2 * s)
                case measure => omega
                case rel => exact ⟨2 * s, dj, by first | rfl | go_num | (congr 1; omega), by omega, by omega, Nat.le_refl _, S1, HNEXT, HP⟩
        · have hsz2 : ¬ (s : Int) < (n : Int) := by omega
          have HF : Hid (SortedIn L 0 n dk) := Lib.hid (HB.out.whole (by omega))
          go_wp2_with fail
          go_end0
          exact ⟨rfl, dk, S1.out, HP.out, HF.out⟩

theorem stableFunc_any {L : Int × Int → Int × Int → Bool} (hL : SWO L) (blk off cap : Nat) (d : Array (Int × Int)) (w : World) (R : Row2 w blk off d)
    (hsz : d.size < 1073741824) (hp : ∀ x y, x < y → y < d.size → ltOf cfC d[y]! d[x]! = L d[y]! d[x]!) :
    Calls Try.prog 57 #[.slice (some ⟨blk, off, none⟩) d.size cap, CMP] w fun e w' =>
      e = .returned (.tuple #[]) ∧ ∃ d', SW2 w blk off d' w' ∧ PermIn 0 d.size d d' ∧ SortedIn L 0 d.size d' := by
  have HC := Lib.hid (stable_any hL blk off cap d d w w R rfl (SWK.start R.hH) hsz hp)
  clear hp
  go_enter Try.func57, Try.ntmps57
  go_wp2_with fail
  refine (HC.out).mono ?_
  rintro e1 w1 ⟨rfl, h⟩
  have H := Lib.hid h
  clear h
  go_wp2_with fail
  go_end0
  exact ⟨rfl, H.out⟩

theorem ordered_any {L : Int × Int → Int × Int → Bool} (hL : SWO L) (blk off cap : Nat) (d : Array (Int × Int)) (w : World) (R : Row2 w blk off d)
    (hsz : d.size < 1073741824) (hp : ∀ x y, x < y → y < d.size → ltOf cfC d[y]! d[x]! = L d[y]! d[x]!) :
    Calls Try.prog 53 #[.slice (some ⟨blk, off, none⟩) d.size cap, CMP] w fun e w' =>
      e = .returned (.slice (some ⟨blk, off, none⟩) d.size cap) ∧ ∃ d', SW2 w blk off d' w' ∧ PermIn 0 d.size d d' ∧ SortedIn L 0 d.size d' := by
  have HC := Lib.hid (stableFunc_any hL blk off cap d w R hsz hp)
  clear hp
  go_enter Try.func53, Try.ntmps53
  go_wp2_with fail
  refine (HC.out).mono ?_
  rintro e1 w1 ⟨rfl, h⟩
  have H := Lib.hid h
  clear h
  go_wp2_with fail
  go_ret
  exact ⟨rfl, H.out⟩

end Go.Proofs.Ytndpblgedpdjdaa
