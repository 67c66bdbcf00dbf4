/- The library's stable sort over claims: the symmetric merge. -/
import Derived.Test.YtndpblgedpdjdaaSymB
namespace Go.Proofs.Ytndpblgedpdjdaa
open Go.Shelf Go.RowKit Go.Lib Go.Sort
set_option linter.unusedSimpArgs false
set_option linter.unusedVariables false

/-- What a merge owes. -/
def Merges (L : Int × Int → Int × Int → Bool) (blk off cap : Nat) (d0 : Array (Int × Int)) (w0 : World) (N : Nat) : Prop :=
  ∀ (a m b : Nat) (d : Array (Int × Int)) (w : World), b - a ≤ N → a < m → m < b → b ≤ d.size → d0.size = d.size → SW2 w0 blk off d w → St.Halves (ltOf cfC) L d a m b →
    Calls Try.prog 60 #[.slice (some ⟨blk, off, none⟩) d.size cap, .int .i64 a, .int .i64 m, .int .i64 b, CMP] w fun e w' =>
      e = .returned (.tuple #[]) ∧ ∃ d', SW2 w0 blk off d' w' ∧ PermIn a b d d' ∧ SortedIn L a b d'

set_option maxHeartbeats 16000000 in
set_option maxRecDepth 1000000 in
theorem symMerge_high {L : Int × Int → Int × Int → Bool} (hL : SWO L) (blk off cap a m b N mid : Nat) (hmid : mid = (a + b) / 2) (hcase : mid < m) (d0 d : Array (Int × Int)) (w0 w : World) (R : Row2 w0 blk off d0) (hs : d0.size = d.size) (S : SW2 w0 blk off d w)
    (h1 : a + 1 < m) (h2 : m + 1 < b) (h3 : b ≤ d.size) (hsz : d.size < 4611686018427387904) (H : St.Halves (ltOf cfC) L d a m b) (IH : Merges L blk off cap d0 w0 N) (hN : b - a ≤ N + 1) :
    Calls Try.prog 60 #[.slice (some ⟨blk, off, none⟩) d.size cap, .int .i64 a, .int .i64 m, .int .i64 b, CMP] w fun e w' =>
      e = .returned (.tuple #[]) ∧ ∃ d', SW2 w0 blk off d' w' ∧ PermIn a b d d' ∧ SortedIn L a b d' := by
  have S0 : Aside (SW2 w0 blk off d w) := S
  have HS := Lib.hid hs
  have hone : ((m : Int) - (a : Int) == 1) = false := by rw [beq_eq_false_iff_ne]; omega
  have hone2 : ((b : Int) - (m : Int) == 1) = false := by rw [beq_eq_false_iff_ne]; omega
  have mixed := mixed
  have k0 : (0 : Int) ≤ (a : Int) + (b : Int) := by omega
  have k1 : (a : Int) + (b : Int) ≤ 9223372036854775807 := by omega
  have qmid : ((a : Int) + (b : Int)) / 2 = (mid : Int) := by omega
  have hl := St.lo0_hi0 (a := a) (m := m) (b := b) (by omega) (by omega)
  obtain ⟨lo, hlo⟩ : ∃ lo, lo = St.lo0 a m b := ⟨_, rfl⟩
  obtain ⟨hi, hhi⟩ : ∃ hi, hi = St.hi0 a m b := ⟨_, rfl⟩
  have HIN : Hid (∀ c, lo ≤ c → c < hi → a ≤ c ∧ c < m ∧ m ≤ mid + m - 1 - c ∧ mid + m - 1 - c < b) := Lib.hid (fun c q1 q2 => by rw [hmid]; exact St.search_in (by omega) (by omega) (hlo ▸ q1) (hhi ▸ q2))
  have HMONO : Hid (∀ c c', lo ≤ c' → c' ≤ c → c < hi → ltOf cfC d[mid + m - 1 - c]! d[c]! = false → ltOf cfC d[mid + m - 1 - c']! d[c']! = false) := Lib.hid (fun c c' q1 q2 q3 q4 => by
    rw [hmid] at q4 ⊢; exact St.search_mono hL (by omega) (by omega) H (hlo ▸ q1) q2 (hhi ▸ q3) q4)
  have HMONO' : Hid (∀ c c', lo ≤ c → c ≤ c' → c' < hi → ltOf cfC d[mid + m - 1 - c]! d[c]! = true → ltOf cfC d[mid + m - 1 - c']! d[c']! = true) := Lib.hid (fun c c' q1 q2 q3 q4 => by
    rw [hmid] at q4 ⊢; exact St.search_mono' hL (by omega) (by omega) H (hlo ▸ q1) q2 (hhi ▸ q3) q4)
  have HSPLIT : Hid (∀ s d1, lo ≤ s → s ≤ hi → (∀ c, lo ≤ c → c < s → ltOf cfC d[mid + m - 1 - c]! d[c]! = false) → (∀ c, s ≤ c → c < hi → ltOf cfC d[mid + m - 1 - c]! d[c]! = true) →
      St.Turned d d1 s m (mid + m - s) → St.Split (ltOf cfC) L d1 a mid b s (mid + m - s)) := Lib.hid (fun s d1 q1 q2 q3 q4 q5 => by
    rw [hmid] at q3 q4 q5 ⊢; rw [hlo] at q1 q3; rw [hhi] at q2 q4; exact St.merge_split hL (by omega) (by omega) H q1 q2 q3 q4 q5)
  rw [← hlo, ← hhi, ← hmid] at hl
  obtain ⟨la, lh, hm, hmi, hlb⟩ := hl
  have hmb : a < mid := by omega
  have hmb2 : mid < b := by omega
  have hcz : (mid : Int) < (m : Int) := by omega
  have elo : lo = mid + m - b := by rw [hlo]; unfold St.lo0; rw [if_pos (by omega), ← hmid]
  have ehi : hi = mid := by rw [hhi]; unfold St.hi0; rw [if_pos (by omega), ← hmid]
  have elz : (mid : Int) + (m : Int) - (b : Int) = (lo : Int) := by omega
  clear hlo hhi elo
  rw [ehi] at HIN HMONO HMONO' HSPLIT lh hm hmi
  clear ehi
  have HI := Lib.hid IH
  clear S H IH hmid hs
  go_enter Try.func60, Try.ntmps60
  go_wp2_with fail
  go_loopg [20, 21] (b - a) (fun kx v20 v21 wr => ∃ (i j : Nat), v20 = .int .i64 i ∧ v21 = .int .i64 j ∧ j - i ≤ kx ∧ lo ≤ i ∧ i ≤ j ∧ j ≤ mid ∧ Aside (SW2 w0 blk off d wr) ∧
    Hid (∀ c, lo ≤ c → c < i → ltOf cfC d[mid + m - 1 - c]! d[c]! = false) ∧ Hid (∀ c, j ≤ c → c < mid → ltOf cfC d[mid + m - 1 - c]! d[c]! = true))
  case atStart => exact ⟨lo, mid, rfl, rfl, by omega, by omega, by omega, by omega, S0, Lib.hid (fun c _ _ => by omega), Lib.hid (fun c _ _ => by omega)⟩
  case round =>
    clear S0
    obtain ⟨i, j, rfl, rfl, hkx, hai, hij, hjb, S1, HLOW, HHIG⟩ := hrel
    have hs : d0.size = d.size := HS.out
    by_cases hlt : i < j
    · have hltz : (i : Int) < (j : Int) := by omega
      have q0 : (0 : Int) ≤ (i : Int) + (j : Int) := by omega
      have q1 : (i : Int) + (j : Int) ≤ 9223372036854775807 := by omega
      obtain ⟨h, hh⟩ : ∃ h, h = (i + j) / 2 := ⟨_, rfl⟩
      have qh : ((i : Int) + (j : Int)) / 2 = (h : Int) := by omega
      have hih : i ≤ h := by omega
      have hhj : h < j := by omega
      clear hh
      obtain ⟨n1, n2, n3, n4⟩ := HIN.out h (by omega) (by omega)
      obtain ⟨g, hg⟩ : ∃ g, g = mid + m - 1 - h := ⟨_, rfl⟩
      have qg : (mid : Int) + (m : Int) - 1 - (h : Int) = (g : Int) := by omega
      rw [← hg] at n3 n4
      have rg : IntKind.i64.wrap ((g : Nat) : Int) = (g : Int) := by rw [IntKind.wrap_i64]; omega
      have HG := Lib.hid hg
      clear hg
      have ba : (h : Int) < (d.size : Int) := by omega
      have bb : (g : Int) < (d.size : Int) := by omega
      have l1 := ld0 S1.out R (by omega) (g) (by omega)
      have l2 := ld1 S1.out R (by omega) (g) (by omega)
      have l3 := ld0 S1.out R (by omega) (h) (by omega)
      have l4 := ld1 S1.out R (by omega) (h) (by omega)
      obtain ⟨x1, x2, hx⟩ : ∃ x1 x2, d[g]! = (x1, x2) := ⟨_, _, rfl⟩
      obtain ⟨y1, y2, hy⟩ : ∃ y1 y2, d[h]! = (y1, y2) := ⟨_, _, rfl⟩
      rw [hx] at l1 l2
      rw [hy] at l3 l4
      simp only at l1 l2 l3 l4
      have HLT : Hid (ltOf cfC d[g]! d[h]! = decide (cfC (x1, x2) (y1, y2) < 0)) := Lib.hid (by rw [hx, hy]; rfl)
      clear hx hy
      by_cases hv : cfC (x1, x2) (y1, y2) < 0
      · have HV : Hid (ltOf cfC d[g]! d[h]! = true) := Lib.hid (HLT.out.trans (decide_eq_true hv))
        have hd : decide (cfC (x1, x2) (y1, y2) < 0) = true := decide_eq_true hv
        go_wp2_with fail
        go_quiet_grown (first | (go_at_call 54; exact cmpg _ _ _ _ _ _ _))
        have S2 : Aside (SW2 w0 blk off d (grow (wr.drewN nq) osq)) := S1.out.grown nq osq
        clear l1 l2 l3 l4 S1
        generalize grow (wr.drewN nq) osq = w2 at S2 ⊢
        clear nq osq
        go_wp2_with fail
        go_roundg (h - i)
        case measure => omega
        case rel => exact ⟨i, h, rfl, rfl, Nat.le_refl _, hai, by omega, by omega, S2, HLOW, Lib.hid (fun c q1 q2 => HMONO'.out h c (by omega) q1 q2 (by rw [← HG.out]; exact HV.out))⟩
      · have HV : Hid (ltOf cfC d[g]! d[h]! = false) := Lib.hid (HLT.out.trans (decide_eq_false hv))
        have hd : decide (cfC (x1, x2) (y1, y2) < 0) = false := decide_eq_false hv
        go_wp2_with fail
        go_quiet_grown (first | (go_at_call 54; exact cmpg _ _ _ _ _ _ _))
        have S2 : Aside (SW2 w0 blk off d (grow (wr.drewN nq) osq)) := S1.out.grown nq osq
        clear l1 l2 l3 l4 S1
        generalize grow (wr.drewN nq) osq = w2 at S2 ⊢
        clear nq osq
        go_wp2_with fail
        go_roundg (j - (h + 1))
        case measure => omega
        case rel => exact ⟨h + 1, j, by go_num, rfl, Nat.le_refl _, by omega, by omega, hjb, S2, Lib.hid (fun c q1 q2 => HMONO.out h c q1 (by omega) (by omega) (by rw [← HG.out]; exact HV.out)), HHIG⟩
    · have hltz : ¬ (i : Int) < (j : Int) := by omega
      obtain rfl : i = j := by omega
      obtain ⟨e, he⟩ : ∃ e, e = mid + m - i := ⟨_, rfl⟩
      have qe : (mid : Int) + (m : Int) - (i : Int) = (e : Int) := by omega
      have eb : m ≤ e := by omega
      have eb2 : e ≤ b := by omega
      have eb3 : mid ≤ e := by omega
      have HSP := Lib.hid (fun d1 hT => HSPLIT.out i d1 hai hjb HLOW.out HHIG.out hT)
      rw [← he] at HSP
      have HE := Lib.hid he
      clear HLOW HHIG HMONO HMONO' HIN HSPLIT he
      by_cases hrot : i < m ∧ m < e
      · obtain ⟨r1, r2⟩ := hrot
        have r1z : (i : Int) < (m : Int) := by omega
        have r2z : (m : Int) < (e : Int) := by omega
        have hcall := rotate_any 54 #[] blk off cap i m e d0 d w0 wr R hs S1.out r1 r2 (by omega) hsz
        have HC := Lib.hid hcall
        clear hcall S1
        go_wp2_with fail
        refine (HC.out).mono ?_
        rintro e1 w1 ⟨rfl, d1, s1, p1, t1⟩
        have hd1 : d1.size = d.size := p1.1
        have T1 : Aside (SW2 w0 blk off d1 w1) := s1
        have P1 := Lib.hid (permIn_mono d d1 i e a b (by omega) (by omega) h3 p1)
        have HS1 := Lib.hid (HSP.out d1 t1)
        clear s1 p1 t1 HSP HC
        by_cases hleft : a < i ∧ i < mid
        · obtain ⟨r4, r5⟩ := hleft
          have r4z : (a : Int) < (i : Int) := by omega
          have r5z : (i : Int) < (mid : Int) := by omega
          have hcall := HI.out a i mid d1 w1 (by omega) r4 r5 (by omega) (by omega) T1.out HS1.out.left
          rw [hd1] at hcall
          have HC2 := Lib.hid hcall
          clear hcall T1
          go_wp2_with fail
          all_goals
            refine (HC2.out).mono ?_
            rintro e1 w2 ⟨rfl, d2, s2, p2, o2⟩
            have hd2 : d2.size = d.size := p2.1.trans hd1
            have T2 : Aside (SW2 w0 blk off d2 w2) := s2
            have P2 := Lib.hid p2
            have O2 := Lib.hid o2
            clear s2 p2 o2 HC2
            by_cases hright : mid < e ∧ e < b
            · obtain ⟨r6, r7⟩ := hright
              have r6z : (mid : Int) < (e : Int) := by omega
              have r7z : (e : Int) < (b : Int) := by omega
              have hcall := HI.out mid e b d2 w2 (by omega) r6 r7 (by omega) (by omega) T2.out (HS1.out.right.perm_right (by omega) (by omega) P2.out (by omega))
              rw [hd2] at hcall
              have HC3 := Lib.hid hcall
              clear hcall T2
              go_wp2_with fail
              all_goals
                refine (HC3.out).mono ?_
                rintro e1 w3 ⟨rfl, d3, s3, p3, o3⟩
                have T3 : Aside (SW2 w0 blk off d3 w3) := s3
                have HF := Lib.hid (St.merge_join (by omega) HS1.out P2.out O2.out p3 o3)
                clear s3 p3 o3 HC3
                go_wp2_with fail
                go_end0
                exact ⟨rfl, d3, T3.out, permIn_trans _ _ _ _ _ P1.out HF.out.1, HF.out.2⟩
            · have o3 : SortedIn L mid b d2 := St.halves_none (by omega) (by omega) (HS1.out.right.perm_right (by omega) (by omega) P2.out (by omega)) (by omega)
              have HF := Lib.hid (St.merge_join (by omega) HS1.out P2.out O2.out (permIn_refl d2 mid b) o3)
              clear o3
              by_cases r6 : mid < e
              · have r6z : (mid : Int) < (e : Int) := by omega
                have r7z : ¬ (e : Int) < (b : Int) := by omega
                clear hright
                go_wp2_with fail
                all_goals
                  go_end0
                  exact ⟨rfl, d2, T2.out, permIn_trans _ _ _ _ _ P1.out HF.out.1, HF.out.2⟩
              · have r6z : ¬ (mid : Int) < (e : Int) := by omega
                clear hright
                go_wp2_with fail
                all_goals
                  go_end0
                  exact ⟨rfl, d2, T2.out, permIn_trans _ _ _ _ _ P1.out HF.out.1, HF.out.2⟩
        · have o2 : SortedIn L a mid d1 := St.halves_none HS1.out.as HS1.out.sm HS1.out.left (by omega)
          obtain ⟨d2, hdd⟩ : ∃ d2, d2 = d1 := ⟨_, rfl⟩
          have hd2 : d2.size = d.size := by rw [hdd]; exact hd1
          have T2 : Aside (SW2 w0 blk off d2 w1) := hdd ▸ T1
          have P2 : Hid (PermIn a mid d1 d2) := Lib.hid (hdd ▸ permIn_refl d1 a mid)
          have O2 : Hid (SortedIn L a mid d2) := Lib.hid (hdd ▸ o2)
          clear hdd o2 T1
          obtain ⟨w2, hw2⟩ : ∃ w2, w2 = w1 := ⟨_, rfl⟩
          subst hw2
          by_cases r4 : a < i
          · have r4z : (a : Int) < (i : Int) := by omega
            have r5z : ¬ (i : Int) < (mid : Int) := by omega
            clear hleft
            by_cases hright : mid < e ∧ e < b
            · obtain ⟨r6, r7⟩ := hright
              have r6z : (mid : Int) < (e : Int) := by omega
              have r7z : (e : Int) < (b : Int) := by omega
              have hcall := HI.out mid e b d2 w2 (by omega) r6 r7 (by omega) (by omega) T2.out (HS1.out.right.perm_right (by omega) (by omega) P2.out (by omega))
              rw [hd2] at hcall
              have HC3 := Lib.hid hcall
              clear hcall T2
              go_wp2_with fail
              all_goals
                refine (HC3.out).mono ?_
                rintro e1 w3 ⟨rfl, d3, s3, p3, o3⟩
                have T3 : Aside (SW2 w0 blk off d3 w3) := s3
                have HF := Lib.hid (St.merge_join (by omega) HS1.out P2.out O2.out p3 o3)
                clear s3 p3 o3 HC3
                go_wp2_with fail
                go_end0
                exact ⟨rfl, d3, T3.out, permIn_trans _ _ _ _ _ P1.out HF.out.1, HF.out.2⟩
            · have o3 : SortedIn L mid b d2 := St.halves_none (by omega) (by omega) (HS1.out.right.perm_right (by omega) (by omega) P2.out (by omega)) (by omega)
              have HF := Lib.hid (St.merge_join (by omega) HS1.out P2.out O2.out (permIn_refl d2 mid b) o3)
              clear o3
              by_cases r6 : mid < e
              · have r6z : (mid : Int) < (e : Int) := by omega
                have r7z : ¬ (e : Int) < (b : Int) := by omega
                clear hright
                go_wp2_with fail
                all_goals
                  go_end0
                  exact ⟨rfl, d2, T2.out, permIn_trans _ _ _ _ _ P1.out HF.out.1, HF.out.2⟩
              · have r6z : ¬ (mid : Int) < (e : Int) := by omega
                clear hright
                go_wp2_with fail
                all_goals
                  go_end0
                  exact ⟨rfl, d2, T2.out, permIn_trans _ _ _ _ _ P1.out HF.out.1, HF.out.2⟩
          · have r4z : ¬ (a : Int) < (i : Int) := by omega
            clear hleft
            by_cases hright : mid < e ∧ e < b
            · obtain ⟨r6, r7⟩ := hright
              have r6z : (mid : Int) < (e : Int) := by omega
              have r7z : (e : Int) < (b : Int) := by omega
              have hcall := HI.out mid e b d2 w2 (by omega) r6 r7 (by omega) (by omega) T2.out (HS1.out.right.perm_right (by omega) (by omega) P2.out (by omega))
              rw [hd2] at hcall
              have HC3 := Lib.hid hcall
              clear hcall T2
              go_wp2_with fail
              all_goals
                refine (HC3.out).mono ?_
                rintro e1 w3 ⟨rfl, d3, s3, p3, o3⟩
                have T3 : Aside (SW2 w0 blk off d3 w3) := s3
                have HF := Lib.hid (St.merge_join (by omega) HS1.out P2.out O2.out p3 o3)
                clear s3 p3 o3 HC3
                go_wp2_with fail
                go_end0
                exact ⟨rfl, d3, T3.out, permIn_trans _ _ _ _ _ P1.out HF.out.1, HF.out.2⟩
            · have o3 : SortedIn L mid b d2 := St.halves_none (by omega) (by omega) (HS1.out.right.perm_right (by omega) (by omega) P2.out (by omega)) (by omega)
              have HF := Lib.hid (St.merge_join (by omega) HS1.out P2.out O2.out (permIn_refl d2 mid b) o3)
              clear o3
              by_cases r6 : mid < e
              · have r6z : (mid : Int) < (e : Int) := by omega
                have r7z : ¬ (e : Int) < (b : Int) := by omega
                clear hright
                go_wp2_with fail
                all_goals
                  go_end0
                  exact ⟨rfl, d2, T2.out, permIn_trans _ _ _ _ _ P1.out HF.out.1, HF.out.2⟩
              · have r6z : ¬ (mid : Int) < (e : Int) := by omega
                clear hright
                go_wp2_with fail
                all_goals
                  go_end0
                  exact ⟨rfl, d2, T2.out, permIn_trans _ _ _ _ _ P1.out HF.out.1, HF.out.2⟩
      · have t1 : St.Turned d d i m e := St.turned_none (by omega) eb (by omega)
        have HS1 := Lib.hid (HSP.out d t1)
        obtain ⟨d1, hdd⟩ : ∃ d1, d1 = d := ⟨_, rfl⟩
        have hd1 : d1.size = d.size := by rw [hdd]
        have T1 : Aside (SW2 w0 blk off d1 wr) := hdd ▸ S1
        have P1 : Hid (PermIn a b d d1) := Lib.hid (hdd ▸ permIn_refl d a b)
        have HS1 := hdd ▸ HS1
        clear hdd t1 S1 HSP
        obtain ⟨w1, hw1⟩ : ∃ w1, w1 = wr := ⟨_, rfl⟩
        subst hw1
        have r2z : ((i : Int) < (m : Int) ∧ (m : Int) < (e : Int)) = False := eq_false (by omega)
        by_cases r1 : i < m
        · have r1z : (i : Int) < (m : Int) := by omega
          have r3z : ¬ (m : Int) < (e : Int) := by omega
          clear r2z hrot
          by_cases hleft : a < i ∧ i < mid
          · obtain ⟨r4, r5⟩ := hleft
            have r4z : (a : Int) < (i : Int) := by omega
            have r5z : (i : Int) < (mid : Int) := by omega
            have hcall := HI.out a i mid d1 w1 (by omega) r4 r5 (by omega) (by omega) T1.out HS1.out.left
            rw [hd1] at hcall
            have HC2 := Lib.hid hcall
            clear hcall T1
            go_wp2_with fail
            all_goals
              refine (HC2.out).mono ?_
              rintro e1 w2 ⟨rfl, d2, s2, p2, o2⟩
              have hd2 : d2.size = d.size := p2.1.trans hd1
              have T2 : Aside (SW2 w0 blk off d2 w2) := s2
              have P2 := Lib.hid p2
              have O2 := Lib.hid o2
              clear s2 p2 o2 HC2
              by_cases hright : mid < e ∧ e < b
              · obtain ⟨r6, r7⟩ := hright
                have r6z : (mid : Int) < (e : Int) := by omega
                have r7z : (e : Int) < (b : Int) := by omega
                have hcall := HI.out mid e b d2 w2 (by omega) r6 r7 (by omega) (by omega) T2.out (HS1.out.right.perm_right (by omega) (by omega) P2.out (by omega))
                rw [hd2] at hcall
                have HC3 := Lib.hid hcall
                clear hcall T2
                go_wp2_with fail
                all_goals
                  refine (HC3.out).mono ?_
                  rintro e1 w3 ⟨rfl, d3, s3, p3, o3⟩
                  have T3 : Aside (SW2 w0 blk off d3 w3) := s3
                  have HF := Lib.hid (St.merge_join (by omega) HS1.out P2.out O2.out p3 o3)
                  clear s3 p3 o3 HC3
                  go_wp2_with fail
                  go_end0
                  exact ⟨rfl, d3, T3.out, permIn_trans _ _ _ _ _ P1.out HF.out.1, HF.out.2⟩
              · have o3 : SortedIn L mid b d2 := St.halves_none (by omega) (by omega) (HS1.out.right.perm_right (by omega) (by omega) P2.out (by omega)) (by omega)
                have HF := Lib.hid (St.merge_join (by omega) HS1.out P2.out O2.out (permIn_refl d2 mid b) o3)
                clear o3
                by_cases r6 : mid < e
                · have r6z : (mid : Int) < (e : Int) := by omega
                  have r7z : ¬ (e : Int) < (b : Int) := by omega
                  clear hright
                  go_wp2_with fail
                  all_goals
                    go_end0
                    exact ⟨rfl, d2, T2.out, permIn_trans _ _ _ _ _ P1.out HF.out.1, HF.out.2⟩
                · have r6z : ¬ (mid : Int) < (e : Int) := by omega
                  clear hright
                  go_wp2_with fail
                  all_goals
                    go_end0
                    exact ⟨rfl, d2, T2.out, permIn_trans _ _ _ _ _ P1.out HF.out.1, HF.out.2⟩
          · have o2 : SortedIn L a mid d1 := St.halves_none HS1.out.as HS1.out.sm HS1.out.left (by omega)
            obtain ⟨d2, hdd⟩ : ∃ d2, d2 = d1 := ⟨_, rfl⟩
            have hd2 : d2.size = d.size := by rw [hdd]; exact hd1
            have T2 : Aside (SW2 w0 blk off d2 w1) := hdd ▸ T1
            have P2 : Hid (PermIn a mid d1 d2) := Lib.hid (hdd ▸ permIn_refl d1 a mid)
            have O2 : Hid (SortedIn L a mid d2) := Lib.hid (hdd ▸ o2)
            clear hdd o2 T1
            obtain ⟨w2, hw2⟩ : ∃ w2, w2 = w1 := ⟨_, rfl⟩
            subst hw2
            by_cases r4 : a < i
            · have r4z : (a : Int) < (i : Int) := by omega
              have r5z : ¬ (i : Int) < (mid : Int) := by omega
              clear hleft
              by_cases hright : mid < e ∧ e < b
              · obtain ⟨r6, r7⟩ := hright
                have r6z : (mid : Int) < (e : Int) := by omega
                have r7z : (e : Int) < (b : Int) := by omega
                have hcall := HI.out mid e b d2 w2 (by omega) r6 r7 (by omega) (by omega) T2.out (HS1.out.right.perm_right (by omega) (by omega) P2.out (by omega))
                rw [hd2] at hcall
                have HC3 := Lib.hid hcall
                clear hcall T2
                go_wp2_with fail
                all_goals
                  refine (HC3.out).mono ?_
                  rintro e1 w3 ⟨rfl, d3, s3, p3, o3⟩
                  have T3 : Aside (SW2 w0 blk off d3 w3) := s3
                  have HF := Lib.hid (St.merge_join (by omega) HS1.out P2.out O2.out p3 o3)
                  clear s3 p3 o3 HC3
                  go_wp2_with fail
                  go_end0
                  exact ⟨rfl, d3, T3.out, permIn_trans _ _ _ _ _ P1.out HF.out.1, HF.out.2⟩
              · have o3 : SortedIn L mid b d2 := St.halves_none (by omega) (by omega) (HS1.out.right.perm_right (by omega) (by omega) P2.out (by omega)) (by omega)
                have HF := Lib.hid (St.merge_join (by omega) HS1.out P2.out O2.out (permIn_refl d2 mid b) o3)
                clear o3
                by_cases r6 : mid < e
                · have r6z : (mid : Int) < (e : Int) := by omega
                  have r7z : ¬ (e : Int) < (b : Int) := by omega
                  clear hright
                  go_wp2_with fail
                  all_goals
                    go_end0
                    exact ⟨rfl, d2, T2.out, permIn_trans _ _ _ _ _ P1.out HF.out.1, HF.out.2⟩
                · have r6z : ¬ (mid : Int) < (e : Int) := by omega
                  clear hright
                  go_wp2_with fail
                  all_goals
                    go_end0
                    exact ⟨rfl, d2, T2.out, permIn_trans _ _ _ _ _ P1.out HF.out.1, HF.out.2⟩
            · have r4z : ¬ (a : Int) < (i : Int) := by omega
              clear hleft
              by_cases hright : mid < e ∧ e < b
              · obtain ⟨r6, r7⟩ := hright
                have r6z : (mid : Int) < (e : Int) := by omega
                have r7z : (e : Int) < (b : Int) := by omega
                have hcall := HI.out mid e b d2 w2 (by omega) r6 r7 (by omega) (by omega) T2.out (HS1.out.right.perm_right (by omega) (by omega) P2.out (by omega))
                rw [hd2] at hcall
                have HC3 := Lib.hid hcall
                clear hcall T2
                go_wp2_with fail
                all_goals
                  refine (HC3.out).mono ?_
                  rintro e1 w3 ⟨rfl, d3, s3, p3, o3⟩
                  have T3 : Aside (SW2 w0 blk off d3 w3) := s3
                  have HF := Lib.hid (St.merge_join (by omega) HS1.out P2.out O2.out p3 o3)
                  clear s3 p3 o3 HC3
                  go_wp2_with fail
                  go_end0
                  exact ⟨rfl, d3, T3.out, permIn_trans _ _ _ _ _ P1.out HF.out.1, HF.out.2⟩
              · have o3 : SortedIn L mid b d2 := St.halves_none (by omega) (by omega) (HS1.out.right.perm_right (by omega) (by omega) P2.out (by omega)) (by omega)
                have HF := Lib.hid (St.merge_join (by omega) HS1.out P2.out O2.out (permIn_refl d2 mid b) o3)
                clear o3
                by_cases r6 : mid < e
                · have r6z : (mid : Int) < (e : Int) := by omega
                  have r7z : ¬ (e : Int) < (b : Int) := by omega
                  clear hright
                  go_wp2_with fail
                  all_goals
                    go_end0
                    exact ⟨rfl, d2, T2.out, permIn_trans _ _ _ _ _ P1.out HF.out.1, HF.out.2⟩
                · have r6z : ¬ (mid : Int) < (e : Int) := by omega
                  clear hright
                  go_wp2_with fail
                  all_goals
                    go_end0
                    exact ⟨rfl, d2, T2.out, permIn_trans _ _ _ _ _ P1.out HF.out.1, HF.out.2⟩
        · have r1z : ¬ (i : Int) < (m : Int) := by omega
          clear r2z hrot
          by_cases hleft : a < i ∧ i < mid
          · obtain ⟨r4, r5⟩ := hleft
            have r4z : (a : Int) < (i : Int) := by omega
            have r5z : (i : Int) < (mid : Int) := by omega
            have hcall := HI.out a i mid d1 w1 (by omega) r4 r5 (by omega) (by omega) T1.out HS1.out.left
            rw [hd1] at hcall
            have HC2 := Lib.hid hcall
            clear hcall T1
            go_wp2_with fail
            all_goals
              refine (HC2.out).mono ?_
              rintro e1 w2 ⟨rfl, d2, s2, p2, o2⟩
              have hd2 : d2.size = d.size := p2.1.trans hd1
              have T2 : Aside (SW2 w0 blk off d2 w2) := s2
              have P2 := Lib.hid p2
              have O2 := Lib.hid o2
              clear s2 p2 o2 HC2
              by_cases hright : mid < e ∧ e < b
              · obtain ⟨r6, r7⟩ := hright
                have r6z : (mid : Int) < (e : Int) := by omega
                have r7z : (e : Int) < (b : Int) := by omega
                have hcall := HI.out mid e b d2 w2 (by omega) r6 r7 (by omega) (by omega) T2.out (HS1.out.right.perm_right (by omega) (by omega) P2.out (by omega))
                rw [hd2] at hcall
                have HC3 := Lib.hid hcall
                clear hcall T2
                go_wp2_with fail
                all_goals
                  refine (HC3.out).mono ?_
                  rintro e1 w3 ⟨rfl, d3, s3, p3, o3⟩
                  have T3 : Aside (SW2 w0 blk off d3 w3) := s3
                  have HF := Lib.hid (St.merge_join (by omega) HS1.out P2.out O2.out p3 o3)
                  clear s3 p3 o3 HC3
                  go_wp2_with fail
                  go_end0
                  exact ⟨rfl, d3, T3.out, permIn_trans _ _ _ _ _ P1.out HF.out.1, HF.out.2⟩
              · have o3 : SortedIn L mid b d2 := St.halves_none (by omega) (by omega) (HS1.out.right.perm_right (by omega) (by omega) P2.out (by omega)) (by omega)
                have HF := Lib.hid (St.merge_join (by omega) HS1.out P2.out O2.out (permIn_refl d2 mid b) o3)
                clear o3
                by_cases r6 : mid < e
                · have r6z : (mid : Int) < (e : Int) := by omega
                  have r7z : ¬ (e : Int) < (b : Int) := by omega
                  clear hright
                  go_wp2_with fail
                  all_goals
                    go_end0
                    exact ⟨rfl, d2, T2.out, permIn_trans _ _ _ _ _ P1.out HF.out.1, HF.out.2⟩
                · have r6z : ¬ (mid : Int) < (e : Int) := by omega
                  clear hright
                  go_wp2_with fail
                  all_goals
                    go_end0
                    exact ⟨rfl, d2, T2.out, permIn_trans _ _ _ _ _ P1.out HF.out.1, HF.out.2⟩
          · have o2 : SortedIn L a mid d1 := St.halves_none HS1.out.as HS1.out.sm HS1.out.left (by omega)
            obtain ⟨d2, hdd⟩ : ∃ d2, d2 = d1 := ⟨_, rfl⟩
            have hd2 : d2.size = d.size := by rw [hdd]; exact hd1
            have T2 : Aside (SW2 w0 blk off d2 w1) := hdd ▸ T1
            have P2 : Hid (PermIn a mid d1 d2) := Lib.hid (hdd ▸ permIn_refl d1 a mid)
            have O2 : Hid (SortedIn L a mid d2) := Lib.hid (hdd ▸ o2)
            clear hdd o2 T1
            obtain ⟨w2, hw2⟩ : ∃ w2, w2 = w1 := ⟨_, rfl⟩
            subst hw2
            by_cases r4 : a < i
            · have r4z : (a : Int) < (i : Int) := by omega
              have r5z : ¬ (i : Int) < (mid : Int) := by omega
              clear hleft
              by_cases hright : mid < e ∧ e < b
              · obtain ⟨r6, r7⟩ := hright
                have r6z : (mid : Int) < (e : Int) := by omega
                have r7z : (e : Int) < (b : Int) := by omega
                have hcall := HI.out mid e b d2 w2 (by omega) r6 r7 (by omega) (by omega) T2.out (HS1.out.right.perm_right (by omega) (by omega) P2.out (by omega))
                rw [hd2] at hcall
                have HC3 := Lib.hid hcall
                clear hcall T2
                go_wp2_with fail
                all_goals
                  refine (HC3.out).mono ?_
                  rintro e1 w3 ⟨rfl, d3, s3, p3, o3⟩
                  have T3 : Aside (SW2 w0 blk off d3 w3) := s3
                  have HF := Lib.hid (St.merge_join (by omega) HS1.out P2.out O2.out p3 o3)
                  clear s3 p3 o3 HC3
                  go_wp2_with fail
                  go_end0
                  exact ⟨rfl, d3, T3.out, permIn_trans _ _ _ _ _ P1.out HF.out.1, HF.out.2⟩
              · have o3 : SortedIn L mid b d2 := St.halves_none (by omega) (by omega) (HS1.out.right.perm_right (by omega) (by omega) P2.out (by omega)) (by omega)
                have HF := Lib.hid (St.merge_join (by omega) HS1.out P2.out O2.out (permIn_refl d2 mid b) o3)
                clear o3
                by_cases r6 : mid < e
                · have r6z : (mid : Int) < (e : Int) := by omega
                  have r7z : ¬ (e : Int) < (b : Int) := by omega
                  clear hright
                  go_wp2_with fail
                  all_goals
                    go_end0
                    exact ⟨rfl, d2, T2.out, permIn_trans _ _ _ _ _ P1.out HF.out.1, HF.out.2⟩
                · have r6z : ¬ (mid : Int) < (e : Int) := by omega
                  clear hright
                  go_wp2_with fail
                  all_goals
                    go_end0
                    exact ⟨rfl, d2, T2.out, permIn_trans _ _ _ _ _ P1.out HF.out.1, HF.out.2⟩
            · have r4z : ¬ (a : Int) < (i : Int) := by omega
              clear hleft
              by_cases hright : mid < e ∧ e < b
              · obtain ⟨r6, r7⟩ := hright
                have r6z : (mid : Int) < (e : Int) := by omega
                have r7z : (e : Int) < (b : Int) := by omega
                have hcall := HI.out mid e b d2 w2 (by omega) r6 r7 (by omega) (by omega) T2.out (HS1.out.right.perm_right (by omega) (by omega) P2.out (by omega))
                rw [hd2] at hcall
                have HC3 := Lib.hid hcall
                clear hcall T2
                go_wp2_with fail
                all_goals
                  refine (HC3.out).mono ?_
                  rintro e1 w3 ⟨rfl, d3, s3, p3, o3⟩
                  have T3 : Aside (SW2 w0 blk off d3 w3) := s3
                  have HF := Lib.hid (St.merge_join (by omega) HS1.out P2.out O2.out p3 o3)
                  clear s3 p3 o3 HC3
                  go_wp2_with fail
                  go_end0
                  exact ⟨rfl, d3, T3.out, permIn_trans _ _ _ _ _ P1.out HF.out.1, HF.out.2⟩
              · have o3 : SortedIn L mid b d2 := St.halves_none (by omega) (by omega) (HS1.out.right.perm_right (by omega) (by omega) P2.out (by omega)) (by omega)
                have HF := Lib.hid (St.merge_join (by omega) HS1.out P2.out O2.out (permIn_refl d2 mid b) o3)
                clear o3
                by_cases r6 : mid < e
                · have r6z : (mid : Int) < (e : Int) := by omega
                  have r7z : ¬ (e : Int) < (b : Int) := by omega
                  clear hright
                  go_wp2_with fail
                  all_goals
                    go_end0
                    exact ⟨rfl, d2, T2.out, permIn_trans _ _ _ _ _ P1.out HF.out.1, HF.out.2⟩
                · have r6z : ¬ (mid : Int) < (e : Int) := by omega
                  clear hright
                  go_wp2_with fail
                  all_goals
                    go_end0
                    exact ⟨rfl, d2, T2.out, permIn_trans _ _ _ _ _ P1.out HF.out.1, HF.out.2⟩

set_option maxHeartbeats 16000000 in
set_option maxRecDepth 1000000 in
theorem symMerge_low {L : Int × Int → Int × Int → Bool} (hL : SWO L) (blk off cap a m b N mid : Nat) (hmid : mid = (a + b) / 2) (hcase : ¬ mid < m) (d0 d : Array (Int × Int)) (w0 w : World) (R : Row2 w0 blk off d0) (hs : d0.size = d.size) (S : SW2 w0 blk off d w)
    (h1 : a + 1 < m) (h2 : m + 1 < b) (h3 : b ≤ d.size) (hsz : d.size < 4611686018427387904) (H : St.Halves (ltOf cfC) L d a m b) (IH : Merges L blk off cap d0 w0 N) (hN : b - a ≤ N + 1) :
    Calls Try.prog 60 #[.slice (some ⟨blk, off, none⟩) d.size cap, .int .i64 a, .int .i64 m, .int .i64 b, CMP] w fun e w' =>
      e = .returned (.tuple #[]) ∧ ∃ d', SW2 w0 blk off d' w' ∧ PermIn a b d d' ∧ SortedIn L a b d' := by
  have S0 : Aside (SW2 w0 blk off d w) := S
  have HS := Lib.hid hs
  have hone : ((m : Int) - (a : Int) == 1) = false := by rw [beq_eq_false_iff_ne]; omega
  have hone2 : ((b : Int) - (m : Int) == 1) = false := by rw [beq_eq_false_iff_ne]; omega
  have mixed := mixed
  have k0 : (0 : Int) ≤ (a : Int) + (b : Int) := by omega
  have k1 : (a : Int) + (b : Int) ≤ 9223372036854775807 := by omega
  have qmid : ((a : Int) + (b : Int)) / 2 = (mid : Int) := by omega
  have hl := St.lo0_hi0 (a := a) (m := m) (b := b) (by omega) (by omega)
  obtain ⟨lo, hlo⟩ : ∃ lo, lo = St.lo0 a m b := ⟨_, rfl⟩
  obtain ⟨hi, hhi⟩ : ∃ hi, hi = St.hi0 a m b := ⟨_, rfl⟩
  have HIN : Hid (∀ c, lo ≤ c → c < hi → a ≤ c ∧ c < m ∧ m ≤ mid + m - 1 - c ∧ mid + m - 1 - c < b) := Lib.hid (fun c q1 q2 => by rw [hmid]; exact St.search_in (by omega) (by omega) (hlo ▸ q1) (hhi ▸ q2))
  have HMONO : Hid (∀ c c', lo ≤ c' → c' ≤ c → c < hi → ltOf cfC d[mid + m - 1 - c]! d[c]! = false → ltOf cfC d[mid + m - 1 - c']! d[c']! = false) := Lib.hid (fun c c' q1 q2 q3 q4 => by
    rw [hmid] at q4 ⊢; exact St.search_mono hL (by omega) (by omega) H (hlo ▸ q1) q2 (hhi ▸ q3) q4)
  have HMONO' : Hid (∀ c c', lo ≤ c → c ≤ c' → c' < hi → ltOf cfC d[mid + m - 1 - c]! d[c]! = true → ltOf cfC d[mid + m - 1 - c']! d[c']! = true) := Lib.hid (fun c c' q1 q2 q3 q4 => by
    rw [hmid] at q4 ⊢; exact St.search_mono' hL (by omega) (by omega) H (hlo ▸ q1) q2 (hhi ▸ q3) q4)
  have HSPLIT : Hid (∀ s d1, lo ≤ s → s ≤ hi → (∀ c, lo ≤ c → c < s → ltOf cfC d[mid + m - 1 - c]! d[c]! = false) → (∀ c, s ≤ c → c < hi → ltOf cfC d[mid + m - 1 - c]! d[c]! = true) →
      St.Turned d d1 s m (mid + m - s) → St.Split (ltOf cfC) L d1 a mid b s (mid + m - s)) := Lib.hid (fun s d1 q1 q2 q3 q4 q5 => by
    rw [hmid] at q3 q4 q5 ⊢; rw [hlo] at q1 q3; rw [hhi] at q2 q4; exact St.merge_split hL (by omega) (by omega) H q1 q2 q3 q4 q5)
  rw [← hlo, ← hhi, ← hmid] at hl
  obtain ⟨la, lh, hm, hmi, hlb⟩ := hl
  have hmb : a < mid := by omega
  have hmb2 : mid < b := by omega
  have hcz : ¬ (mid : Int) < (m : Int) := by omega
  have elo : lo = a := by rw [hlo]; unfold St.lo0; rw [if_neg (by omega)]
  have ehi : hi = m := by rw [hhi]; unfold St.hi0; rw [if_neg (by omega)]
  clear hlo hhi
  rw [ehi] at HIN HMONO HMONO' HSPLIT lh hm hmi
  rw [elo] at HIN HMONO HMONO' HSPLIT lh la hlb
  clear ehi elo
  have HI := Lib.hid IH
  clear S H IH hmid hs
  go_enter Try.func60, Try.ntmps60
  go_wp2_with fail
  go_loopg [20, 21] (b - a) (fun kx v20 v21 wr => ∃ (i j : Nat), v20 = .int .i64 i ∧ v21 = .int .i64 j ∧ j - i ≤ kx ∧ a ≤ i ∧ i ≤ j ∧ j ≤ m ∧ Aside (SW2 w0 blk off d wr) ∧
    Hid (∀ c, a ≤ c → c < i → ltOf cfC d[mid + m - 1 - c]! d[c]! = false) ∧ Hid (∀ c, j ≤ c → c < m → ltOf cfC d[mid + m - 1 - c]! d[c]! = true))
  case atStart => exact ⟨a, m, rfl, rfl, by omega, by omega, by omega, by omega, S0, Lib.hid (fun c _ _ => by omega), Lib.hid (fun c _ _ => by omega)⟩
  case round =>
    clear S0
    obtain ⟨i, j, rfl, rfl, hkx, hai, hij, hjb, S1, HLOW, HHIG⟩ := hrel
    have hs : d0.size = d.size := HS.out
    by_cases hlt : i < j
    · have hltz : (i : Int) < (j : Int) := by omega
      have q0 : (0 : Int) ≤ (i : Int) + (j : Int) := by omega
      have q1 : (i : Int) + (j : Int) ≤ 9223372036854775807 := by omega
      obtain ⟨h, hh⟩ : ∃ h, h = (i + j) / 2 := ⟨_, rfl⟩
      have qh : ((i : Int) + (j : Int)) / 2 = (h : Int) := by omega
      have hih : i ≤ h := by omega
      have hhj : h < j := by omega
      clear hh
      obtain ⟨n1, n2, n3, n4⟩ := HIN.out h (by omega) (by omega)
      obtain ⟨g, hg⟩ : ∃ g, g = mid + m - 1 - h := ⟨_, rfl⟩
      have qg : (mid : Int) + (m : Int) - 1 - (h : Int) = (g : Int) := by omega
      rw [← hg] at n3 n4
      have rg : IntKind.i64.wrap ((g : Nat) : Int) = (g : Int) := by rw [IntKind.wrap_i64]; omega
      have HG := Lib.hid hg
      clear hg
      have ba : (h : Int) < (d.size : Int) := by omega
      have bb : (g : Int) < (d.size : Int) := by omega
      have l1 := ld0 S1.out R (by omega) (g) (by omega)
      have l2 := ld1 S1.out R (by omega) (g) (by omega)
      have l3 := ld0 S1.out R (by omega) (h) (by omega)
      have l4 := ld1 S1.out R (by omega) (h) (by omega)
      obtain ⟨x1, x2, hx⟩ : ∃ x1 x2, d[g]! = (x1, x2) := ⟨_, _, rfl⟩
      obtain ⟨y1, y2, hy⟩ : ∃ y1 y2, d[h]! = (y1, y2) := ⟨_, _, rfl⟩
      rw [hx] at l1 l2
      rw [hy] at l3 l4
      simp only at l1 l2 l3 l4
      have HLT : Hid (ltOf cfC d[g]! d[h]! = decide (cfC (x1, x2) (y1, y2) < 0)) := Lib.hid (by rw [hx, hy]; rfl)
      clear hx hy
      by_cases hv : cfC (x1, x2) (y1, y2) < 0
      · have HV : Hid (ltOf cfC d[g]! d[h]! = true) := Lib.hid (HLT.out.trans (decide_eq_true hv))
        have hd : decide (cfC (x1, x2) (y1, y2) < 0) = true := decide_eq_true hv
        go_wp2_with fail
        go_quiet_grown (first | (go_at_call 54; exact cmpg _ _ _ _ _ _ _))
        have S2 : Aside (SW2 w0 blk off d (grow (wr.drewN nq) osq)) := S1.out.grown nq osq
        clear l1 l2 l3 l4 S1
        generalize grow (wr.drewN nq) osq = w2 at S2 ⊢
        clear nq osq
        go_wp2_with fail
        go_roundg (h - i)
        case measure => omega
        case rel => exact ⟨i, h, rfl, rfl, Nat.le_refl _, hai, by omega, by omega, S2, HLOW, Lib.hid (fun c q1 q2 => HMONO'.out h c (by omega) q1 q2 (by rw [← HG.out]; exact HV.out))⟩
      · have HV : Hid (ltOf cfC d[g]! d[h]! = false) := Lib.hid (HLT.out.trans (decide_eq_false hv))
        have hd : decide (cfC (x1, x2) (y1, y2) < 0) = false := decide_eq_false hv
        go_wp2_with fail
        go_quiet_grown (first | (go_at_call 54; exact cmpg _ _ _ _ _ _ _))
        have S2 : Aside (SW2 w0 blk off d (grow (wr.drewN nq) osq)) := S1.out.grown nq osq
        clear l1 l2 l3 l4 S1
        generalize grow (wr.drewN nq) osq = w2 at S2 ⊢
        clear nq osq
        go_wp2_with fail
        go_roundg (j - (h + 1))
        case measure => omega
        case rel => exact ⟨h + 1, j, by go_num, rfl, Nat.le_refl _, by omega, by omega, hjb, S2, Lib.hid (fun c q1 q2 => HMONO.out h c q1 (by omega) (by omega) (by rw [← HG.out]; exact HV.out)), HHIG⟩
    · have hltz : ¬ (i : Int) < (j : Int) := by omega
      obtain rfl : i = j := by omega
      obtain ⟨e, he⟩ : ∃ e, e = mid + m - i := ⟨_, rfl⟩
      have qe : (mid : Int) + (m : Int) - (i : Int) = (e : Int) := by omega
      have eb : m ≤ e := by omega
      have eb2 : e ≤ b := by omega
      have eb3 : mid ≤ e := by omega
      have HSP := Lib.hid (fun d1 hT => HSPLIT.out i d1 hai hjb HLOW.out HHIG.out hT)
      rw [← he] at HSP
      have HE := Lib.hid he
      clear HLOW HHIG HMONO HMONO' HIN HSPLIT he
      by_cases hrot : i < m ∧ m < e
      · obtain ⟨r1, r2⟩ := hrot
        have r1z : (i : Int) < (m : Int) := by omega
        have r2z : (m : Int) < (e : Int) := by omega
        have hcall := rotate_any 54 #[] blk off cap i m e d0 d w0 wr R hs S1.out r1 r2 (by omega) hsz
        have HC := Lib.hid hcall
        clear hcall S1
        go_wp2_with fail
        refine (HC.out).mono ?_
        rintro e1 w1 ⟨rfl, d1, s1, p1, t1⟩
        have hd1 : d1.size = d.size := p1.1
        have T1 : Aside (SW2 w0 blk off d1 w1) := s1
        have P1 := Lib.hid (permIn_mono d d1 i e a b (by omega) (by omega) h3 p1)
        have HS1 := Lib.hid (HSP.out d1 t1)
        clear s1 p1 t1 HSP HC
        by_cases hleft : a < i ∧ i < mid
        · obtain ⟨r4, r5⟩ := hleft
          have r4z : (a : Int) < (i : Int) := by omega
          have r5z : (i : Int) < (mid : Int) := by omega
          have hcall := HI.out a i mid d1 w1 (by omega) r4 r5 (by omega) (by omega) T1.out HS1.out.left
          rw [hd1] at hcall
          have HC2 := Lib.hid hcall
          clear hcall T1
          go_wp2_with fail
          all_goals
            refine (HC2.out).mono ?_
            rintro e1 w2 ⟨rfl, d2, s2, p2, o2⟩
            have hd2 : d2.size = d.size := p2.1.trans hd1
            have T2 : Aside (SW2 w0 blk off d2 w2) := s2
            have P2 := Lib.hid p2
            have O2 := Lib.hid o2
            clear s2 p2 o2 HC2
            by_cases hright : mid < e ∧ e < b
            · obtain ⟨r6, r7⟩ := hright
              have r6z : (mid : Int) < (e : Int) := by omega
              have r7z : (e : Int) < (b : Int) := by omega
              have hcall := HI.out mid e b d2 w2 (by omega) r6 r7 (by omega) (by omega) T2.out (HS1.out.right.perm_right (by omega) (by omega) P2.out (by omega))
              rw [hd2] at hcall
              have HC3 := Lib.hid hcall
              clear hcall T2
              go_wp2_with fail
              all_goals
                refine (HC3.out).mono ?_
                rintro e1 w3 ⟨rfl, d3, s3, p3, o3⟩
                have T3 : Aside (SW2 w0 blk off d3 w3) := s3
                have HF := Lib.hid (St.merge_join (by omega) HS1.out P2.out O2.out p3 o3)
                clear s3 p3 o3 HC3
                go_wp2_with fail
                go_end0
                exact ⟨rfl, d3, T3.out, permIn_trans _ _ _ _ _ P1.out HF.out.1, HF.out.2⟩
            · have o3 : SortedIn L mid b d2 := St.halves_none (by omega) (by omega) (HS1.out.right.perm_right (by omega) (by omega) P2.out (by omega)) (by omega)
              have HF := Lib.hid (St.merge_join (by omega) HS1.out P2.out O2.out (permIn_refl d2 mid b) o3)
              clear o3
              by_cases r6 : mid < e
              · have r6z : (mid : Int) < (e : Int) := by omega
                have r7z : ¬ (e : Int) < (b : Int) := by omega
                clear hright
                go_wp2_with fail
                all_goals
                  go_end0
                  exact ⟨rfl, d2, T2.out, permIn_trans _ _ _ _ _ P1.out HF.out.1, HF.out.2⟩
              · have r6z : ¬ (mid : Int) < (e : Int) := by omega
                clear hright
                go_wp2_with fail
                all_goals
                  go_end0
                  exact ⟨rfl, d2, T2.out, permIn_trans _ _ _ _ _ P1.out HF.out.1, HF.out.2⟩
        · have o2 : SortedIn L a mid d1 := St.halves_none HS1.out.as HS1.out.sm HS1.out.left (by omega)
          obtain ⟨d2, hdd⟩ : ∃ d2, d2 = d1 := ⟨_, rfl⟩
          have hd2 : d2.size = d.size := by rw [hdd]; exact hd1
          have T2 : Aside (SW2 w0 blk off d2 w1) := hdd ▸ T1
          have P2 : Hid (PermIn a mid d1 d2) := Lib.hid (hdd ▸ permIn_refl d1 a mid)
          have O2 : Hid (SortedIn L a mid d2) := Lib.hid (hdd ▸ o2)
          clear hdd o2 T1
          obtain ⟨w2, hw2⟩ : ∃ w2, w2 = w1 := ⟨_, rfl⟩
          subst hw2
          by_cases r4 : a < i
          · have r4z : (a : Int) < (i : Int) := by omega
            have r5z : ¬ (i : Int) < (mid : Int) := by omega
            clear hleft
            by_cases hright : mid < e ∧ e < b
            · obtain ⟨r6, r7⟩ := hright
              have r6z : (mid : Int) < (e : Int) := by omega
              have r7z : (e : Int) < (b : Int) := by omega
              have hcall := HI.out mid e b d2 w2 (by omega) r6 r7 (by omega) (by omega) T2.out (HS1.out.right.perm_right (by omega) (by omega) P2.out (by omega))
              rw [hd2] at hcall
              have HC3 := Lib.hid hcall
              clear hcall T2
              go_wp2_with fail
              all_goals
                refine (HC3.out).mono ?_
                rintro e1 w3 ⟨rfl, d3, s3, p3, o3⟩
                have T3 : Aside (SW2 w0 blk off d3 w3) := s3
                have HF := Lib.hid (St.merge_join (by omega) HS1.out P2.out O2.out p3 o3)
                clear s3 p3 o3 HC3
                go_wp2_with fail
                go_end0
                exact ⟨rfl, d3, T3.out, permIn_trans _ _ _ _ _ P1.out HF.out.1, HF.out.2⟩
            · have o3 : SortedIn L mid b d2 := St.halves_none (by omega) (by omega) (HS1.out.right.perm_right (by omega) (by omega) P2.out (by omega)) (by omega)
              have HF := Lib.hid (St.merge_join (by omega) HS1.out P2.out O2.out (permIn_refl d2 mid b) o3)
              clear o3
              by_cases r6 : mid < e
              · have r6z : (mid : Int) < (e : Int) := by omega
                have r7z : ¬ (e : Int) < (b : Int) := by omega
                clear hright
                go_wp2_with fail
                all_goals
                  go_end0
                  exact ⟨rfl, d2, T2.out, permIn_trans _ _ _ _ _ P1.out HF.out.1, HF.out.2⟩
              · have r6z : ¬ (mid : Int) < (e : Int) := by omega
                clear hright
                go_wp2_with fail
                all_goals
                  go_end0
                  exact ⟨rfl, d2, T2.out, permIn_trans _ _ _ _ _ P1.out HF.out.1, HF.out.2⟩
          · have r4z : ¬ (a : Int) < (i : Int) := by omega
            clear hleft
            by_cases hright : mid < e ∧ e < b
            · obtain ⟨r6, r7⟩ := hright
              have r6z : (mid : Int) < (e : Int) := by omega
              have r7z : (e : Int) < (b : Int) := by omega
              have hcall := HI.out mid e b d2 w2 (by omega) r6 r7 (by omega) (by omega) T2.out (HS1.out.right.perm_right (by omega) (by omega) P2.out (by omega))
              rw [hd2] at hcall
              have HC3 := Lib.hid hcall
              clear hcall T2
              go_wp2_with fail
              all_goals
                refine (HC3.out).mono ?_
                rintro e1 w3 ⟨rfl, d3, s3, p3, o3⟩
                have T3 : Aside (SW2 w0 blk off d3 w3) := s3
                have HF := Lib.hid (St.merge_join (by omega) HS1.out P2.out O2.out p3 o3)
                clear s3 p3 o3 HC3
                go_wp2_with fail
                go_end0
                exact ⟨rfl, d3, T3.out, permIn_trans _ _ _ _ _ P1.out HF.out.1, HF.out.2⟩
            · have o3 : SortedIn L mid b d2 := St.halves_none (by omega) (by omega) (HS1.out.right.perm_right (by omega) (by omega) P2.out (by omega)) (by omega)
              have HF := Lib.hid (St.merge_join (by omega) HS1.out P2.out O2.out (permIn_refl d2 mid b) o3)
              clear o3
              by_cases r6 : mid < e
              · have r6z : (mid : Int) < (e : Int) := by omega
                have r7z : ¬ (e : Int) < (b : Int) := by omega
                clear hright
                go_wp2_with fail
                all_goals
                  go_end0
                  exact ⟨rfl, d2, T2.out, permIn_trans _ _ _ _ _ P1.out HF.out.1, HF.out.2⟩
              · have r6z : ¬ (mid : Int) < (e : Int) := by omega
                clear hright
                go_wp2_with fail
                all_goals
                  go_end0
                  exact ⟨rfl, d2, T2.out, permIn_trans _ _ _ _ _ P1.out HF.out.1, HF.out.2⟩
      · have t1 : St.Turned d d i m e := St.turned_none (by omega) eb (by omega)
        have HS1 := Lib.hid (HSP.out d t1)
        obtain ⟨d1, hdd⟩ : ∃ d1, d1 = d := ⟨_, rfl⟩
        have hd1 : d1.size = d.size := by rw [hdd]
        have T1 : Aside (SW2 w0 blk off d1 wr) := hdd ▸ S1
        have P1 : Hid (PermIn a b d d1) := Lib.hid (hdd ▸ permIn_refl d a b)
        have HS1 := hdd ▸ HS1
        clear hdd t1 S1 HSP
        obtain ⟨w1, hw1⟩ : ∃ w1, w1 = wr := ⟨_, rfl⟩
        subst hw1
        have r2z : ((i : Int) < (m : Int) ∧ (m : Int) < (e : Int)) = False := eq_false (by omega)
        by_cases r1 : i < m
        · have r1z : (i : Int) < (m : Int) := by omega
          have r3z : ¬ (m : Int) < (e : Int) := by omega
          clear r2z hrot
          by_cases hleft : a < i ∧ i < mid
          · obtain ⟨r4, r5⟩ := hleft
            have r4z : (a : Int) < (i : Int) := by omega
            have r5z : (i : Int) < (mid : Int) := by omega
            have hcall := HI.out a i mid d1 w1 (by omega) r4 r5 (by omega) (by omega) T1.out HS1.out.left
            rw [hd1] at hcall
            have HC2 := Lib.hid hcall
            clear hcall T1
            go_wp2_with fail
            all_goals
              refine (HC2.out).mono ?_
              rintro e1 w2 ⟨rfl, d2, s2, p2, o2⟩
              have hd2 : d2.size = d.size := p2.1.trans hd1
              have T2 : Aside (SW2 w0 blk off d2 w2) := s2
              have P2 := Lib.hid p2
              have O2 := Lib.hid o2
              clear s2 p2 o2 HC2
              by_cases hright : mid < e ∧ e < b
              · obtain ⟨r6, r7⟩ := hright
                have r6z : (mid : Int) < (e : Int) := by omega
                have r7z : (e : Int) < (b : Int) := by omega
                have hcall := HI.out mid e b d2 w2 (by omega) r6 r7 (by omega) (by omega) T2.out (HS1.out.right.perm_right (by omega) (by omega) P2.out (by omega))
                rw [hd2] at hcall
                have HC3 := Lib.hid hcall
                clear hcall T2
                go_wp2_with fail
                all_goals
                  refine (HC3.out).mono ?_
                  rintro e1 w3 ⟨rfl, d3, s3, p3, o3⟩
                  have T3 : Aside (SW2 w0 blk off d3 w3) := s3
                  have HF := Lib.hid (St.merge_join (by omega) HS1.out P2.out O2.out p3 o3)
                  clear s3 p3 o3 HC3
                  go_wp2_with fail
                  go_end0
                  exact ⟨rfl, d3, T3.out, permIn_trans _ _ _ _ _ P1.out HF.out.1, HF.out.2⟩
              · have o3 : SortedIn L mid b d2 := St.halves_none (by omega) (by omega) (HS1.out.right.perm_right (by omega) (by omega) P2.out (by omega)) (by omega)
                have HF := Lib.hid (St.merge_join (by omega) HS1.out P2.out O2.out (permIn_refl d2 mid b) o3)
                clear o3
                by_cases r6 : mid < e
                · have r6z : (mid : Int) < (e : Int) := by omega
                  have r7z : ¬ (e : Int) < (b : Int) := by omega
                  clear hright
                  go_wp2_with fail
                  all_goals
                    go_end0
                    exact ⟨rfl, d2, T2.out, permIn_trans _ _ _ _ _ P1.out HF.out.1, HF.out.2⟩
                · have r6z : ¬ (mid : Int) < (e : Int) := by omega
                  clear hright
                  go_wp2_with fail
                  all_goals
                    go_end0
                    exact ⟨rfl, d2, T2.out, permIn_trans _ _ _ _ _ P1.out HF.out.1, HF.out.2⟩
          · have o2 : SortedIn L a mid d1 := St.halves_none HS1.out.as HS1.out.sm HS1.out.left (by omega)
            obtain ⟨d2, hdd⟩ : ∃ d2, d2 = d1 := ⟨_, rfl⟩
            have hd2 : d2.size = d.size := by rw [hdd]; exact hd1
            have T2 : Aside (SW2 w0 blk off d2 w1) := hdd ▸ T1
            have P2 : Hid (PermIn a mid d1 d2) := Lib.hid (hdd ▸ permIn_refl d1 a mid)
            have O2 : Hid (SortedIn L a mid d2) := Lib.hid (hdd ▸ o2)
            clear hdd o2 T1
            obtain ⟨w2, hw2⟩ : ∃ w2, w2 = w1 := ⟨_, rfl⟩
            subst hw2
            by_cases r4 : a < i
            · have r4z : (a : Int) < (i : Int) := by omega
              have r5z : ¬ (i : Int) < (mid : Int) := by omega
              clear hleft
              by_cases hright : mid < e ∧ e < b
              · obtain ⟨r6, r7⟩ := hright
                have r6z : (mid : Int) < (e : Int) := by omega
                have r7z : (e : Int) < (b : Int) := by omega
                have hcall := HI.out mid e b d2 w2 (by omega) r6 r7 (by omega) (by omega) T2.out (HS1.out.right.perm_right (by omega) (by omega) P2.out (by omega))
                rw [hd2] at hcall
                have HC3 := Lib.hid hcall
                clear hcall T2
                go_wp2_with fail
                all_goals
                  refine (HC3.out).mono ?_
                  rintro e1 w3 ⟨rfl, d3, s3, p3, o3⟩
                  have T3 : Aside (SW2 w0 blk off d3 w3) := s3
                  have HF := Lib.hid (St.merge_join (by omega) HS1.out P2.out O2.out p3 o3)
                  clear s3 p3 o3 HC3
                  go_wp2_with fail
                  go_end0
                  exact ⟨rfl, d3, T3.out, permIn_trans _ _ _ _ _ P1.out HF.out.1, HF.out.2⟩
              · have o3 : SortedIn L mid b d2 := St.halves_none (by omega) (by omega) (HS1.out.right.perm_right (by omega) (by omega) P2.out (by omega)) (by omega)
                have HF := Lib.hid (St.merge_join (by omega) HS1.out P2.out O2.out (permIn_refl d2 mid b) o3)
                clear o3
                by_cases r6 : mid < e
                · have r6z : (mid : Int) < (e : Int) := by omega
                  have r7z : ¬ (e : Int) < (b : Int) := by omega
                  clear hright
                  go_wp2_with fail
                  all_goals
                    go_end0
                    exact ⟨rfl, d2, T2.out, permIn_trans _ _ _ _ _ P1.out HF.out.1, HF.out.2⟩
                · have r6z : ¬ (mid : Int) < (e : Int) := by omega
                  clear hright
                  go_wp2_with fail
                  all_goals
                    go_end0
                    exact ⟨rfl, d2, T2.out, permIn_trans _ _ _ _ _ P1.out HF.out.1, HF.out.2⟩
            · have r4z : ¬ (a : Int) < (i : Int) := by omega
              clear hleft
              by_cases hright : mid < e ∧ e < b
              · obtain ⟨r6, r7⟩ := hright
                have r6z : (mid : Int) < (e : Int) := by omega
                have r7z : (e : Int) < (b : Int) := by omega
                have hcall := HI.out mid e b d2 w2 (by omega) r6 r7 (by omega) (by omega) T2.out (HS1.out.right.perm_right (by omega) (by omega) P2.out (by omega))
                rw [hd2] at hcall
                have HC3 := Lib.hid hcall
                clear hcall T2
                go_wp2_with fail
                all_goals
                  refine (HC3.out).mono ?_
                  rintro e1 w3 ⟨rfl, d3, s3, p3, o3⟩
                  have T3 : Aside (SW2 w0 blk off d3 w3) := s3
                  have HF := Lib.hid (St.merge_join (by omega) HS1.out P2.out O2.out p3 o3)
                  clear s3 p3 o3 HC3
                  go_wp2_with fail
                  go_end0
                  exact ⟨rfl, d3, T3.out, permIn_trans _ _ _ _ _ P1.out HF.out.1, HF.out.2⟩
              · have o3 : SortedIn L mid b d2 := St.halves_none (by omega) (by omega) (HS1.out.right.perm_right (by omega) (by omega) P2.out (by omega)) (by omega)
                have HF := Lib.hid (St.merge_join (by omega) HS1.out P2.out O2.out (permIn_refl d2 mid b) o3)
                clear o3
                by_cases r6 : mid < e
                · have r6z : (mid : Int) < (e : Int) := by omega
                  have r7z : ¬ (e : Int) < (b : Int) := by omega
                  clear hright
                  go_wp2_with fail
                  all_goals
                    go_end0
                    exact ⟨rfl, d2, T2.out, permIn_trans _ _ _ _ _ P1.out HF.out.1, HF.out.2⟩
                · have r6z : ¬ (mid : Int) < (e : Int) := by omega
                  clear hright
                  go_wp2_with fail
                  all_goals
                    go_end0
                    exact ⟨rfl, d2, T2.out, permIn_trans _ _ _ _ _ P1.out HF.out.1, HF.out.2⟩
        · have r1z : ¬ (i : Int) < (m : Int) := by omega
          clear r2z hrot
          by_cases hleft : a < i ∧ i < mid
          · obtain ⟨r4, r5⟩ := hleft
            have r4z : (a : Int) < (i : Int) := by omega
            have r5z : (i : Int) < (mid : Int) := by omega
            have hcall := HI.out a i mid d1 w1 (by omega) r4 r5 (by omega) (by omega) T1.out HS1.out.left
            rw [hd1] at hcall
            have HC2 := Lib.hid hcall
            clear hcall T1
            go_wp2_with fail
            all_goals
              refine (HC2.out).mono ?_
              rintro e1 w2 ⟨rfl, d2, s2, p2, o2⟩
              have hd2 : d2.size = d.size := p2.1.trans hd1
              have T2 : Aside (SW2 w0 blk off d2 w2) := s2
              have P2 := Lib.hid p2
              have O2 := Lib.hid o2
              clear s2 p2 o2 HC2
              by_cases hright : mid < e ∧ e < b
              · obtain ⟨r6, r7⟩ := hright
                have r6z : (mid : Int) < (e : Int) := by omega
                have r7z : (e : Int) < (b : Int) := by omega
                have hcall := HI.out mid e b d2 w2 (by omega) r6 r7 (by omega) (by omega) T2.out (HS1.out.right.perm_right (by omega) (by omega) P2.out (by omega))
                rw [hd2] at hcall
                have HC3 := Lib.hid hcall
                clear hcall T2
                go_wp2_with fail
                all_goals
                  refine (HC3.out).mono ?_
                  rintro e1 w3 ⟨rfl, d3, s3, p3, o3⟩
                  have T3 : Aside (SW2 w0 blk off d3 w3) := s3
                  have HF := Lib.hid (St.merge_join (by omega) HS1.out P2.out O2.out p3 o3)
                  clear s3 p3 o3 HC3
                  go_wp2_with fail
                  go_end0
                  exact ⟨rfl, d3, T3.out, permIn_trans _ _ _ _ _ P1.out HF.out.1, HF.out.2⟩
              · have o3 : SortedIn L mid b d2 := St.halves_none (by omega) (by omega) (HS1.out.right.perm_right (by omega) (by omega) P2.out (by omega)) (by omega)
                have HF := Lib.hid (St.merge_join (by omega) HS1.out P2.out O2.out (permIn_refl d2 mid b) o3)
                clear o3
                by_cases r6 : mid < e
                · have r6z : (mid : Int) < (e : Int) := by omega
                  have r7z : ¬ (e : Int) < (b : Int) := by omega
                  clear hright
                  go_wp2_with fail
                  all_goals
                    go_end0
                    exact ⟨rfl, d2, T2.out, permIn_trans _ _ _ _ _ P1.out HF.out.1, HF.out.2⟩
                · have r6z : ¬ (mid : Int) < (e : Int) := by omega
                  clear hright
                  go_wp2_with fail
                  all_goals
                    go_end0
                    exact ⟨rfl, d2, T2.out, permIn_trans _ _ _ _ _ P1.out HF.out.1, HF.out.2⟩
          · have o2 : SortedIn L a mid d1 := St.halves_none HS1.out.as HS1.out.sm HS1.out.left (by omega)
            obtain ⟨d2, hdd⟩ : ∃ d2, d2 = d1 := ⟨_, rfl⟩
            have hd2 : d2.size = d.size := by rw [hdd]; exact hd1
            have T2 : Aside (SW2 w0 blk off d2 w1) := hdd ▸ T1
            have P2 : Hid (PermIn a mid d1 d2) := Lib.hid (hdd ▸ permIn_refl d1 a mid)
            have O2 : Hid (SortedIn L a mid d2) := Lib.hid (hdd ▸ o2)
            clear hdd o2 T1
            obtain ⟨w2, hw2⟩ : ∃ w2, w2 = w1 := ⟨_, rfl⟩
            subst hw2
            by_cases r4 : a < i
            · have r4z : (a : Int) < (i : Int) := by omega
              have r5z : ¬ (i : Int) < (mid : Int) := by omega
              clear hleft
              by_cases hright : mid < e ∧ e < b
              · obtain ⟨r6, r7⟩ := hright
                have r6z : (mid : Int) < (e : Int) := by omega
                have r7z : (e : Int) < (b : Int) := by omega
                have hcall := HI.out mid e b d2 w2 (by omega) r6 r7 (by omega) (by omega) T2.out (HS1.out.right.perm_right (by omega) (by omega) P2.out (by omega))
                rw [hd2] at hcall
                have HC3 := Lib.hid hcall
                clear hcall T2
                go_wp2_with fail
                all_goals
                  refine (HC3.out).mono ?_
                  rintro e1 w3 ⟨rfl, d3, s3, p3, o3⟩
                  have T3 : Aside (SW2 w0 blk off d3 w3) := s3
                  have HF := Lib.hid (St.merge_join (by omega) HS1.out P2.out O2.out p3 o3)
                  clear s3 p3 o3 HC3
                  go_wp2_with fail
                  go_end0
                  exact ⟨rfl, d3, T3.out, permIn_trans _ _ _ _ _ P1.out HF.out.1, HF.out.2⟩
              · have o3 : SortedIn L mid b d2 := St.halves_none (by omega) (by omega) (HS1.out.right.perm_right (by omega) (by omega) P2.out (by omega)) (by omega)
                have HF := Lib.hid (St.merge_join (by omega) HS1.out P2.out O2.out (permIn_refl d2 mid b) o3)
                clear o3
                by_cases r6 : mid < e
                · have r6z : (mid : Int) < (e : Int) := by omega
                  have r7z : ¬ (e : Int) < (b : Int) := by omega
                  clear hright
                  go_wp2_with fail
                  all_goals
                    go_end0
                    exact ⟨rfl, d2, T2.out, permIn_trans _ _ _ _ _ P1.out HF.out.1, HF.out.2⟩
                · have r6z : ¬ (mid : Int) < (e : Int) := by omega
                  clear hright
                  go_wp2_with fail
                  all_goals
                    go_end0
                    exact ⟨rfl, d2, T2.out, permIn_trans _ _ _ _ _ P1.out HF.out.1, HF.out.2⟩
            · have r4z : ¬ (a : Int) < (i : Int) := by omega
              clear hleft
              by_cases hright : mid < e ∧ e < b
              · obtain ⟨r6, r7⟩ := hright
                have r6z : (mid : Int) < (e : Int) := by omega
                have r7z : (e : Int) < (b : Int) := by omega
                have hcall := HI.out mid e b d2 w2 (by omega) r6 r7 (by omega) (by omega) T2.out (HS1.out.right.perm_right (by omega) (by omega) P2.out (by omega))
                rw [hd2] at hcall
                have HC3 := Lib.hid hcall
                clear hcall T2
                go_wp2_with fail
                all_goals
                  refine (HC3.out).mono ?_
                  rintro e1 w3 ⟨rfl, d3, s3, p3, o3⟩
                  have T3 : Aside (SW2 w0 blk off d3 w3) := s3
                  have HF := Lib.hid (St.merge_join (by omega) HS1.out P2.out O2.out p3 o3)
                  clear s3 p3 o3 HC3
                  go_wp2_with fail
                  go_end0
                  exact ⟨rfl, d3, T3.out, permIn_trans _ _ _ _ _ P1.out HF.out.1, HF.out.2⟩
              · have o3 : SortedIn L mid b d2 := St.halves_none (by omega) (by omega) (HS1.out.right.perm_right (by omega) (by omega) P2.out (by omega)) (by omega)
                have HF := Lib.hid (St.merge_join (by omega) HS1.out P2.out O2.out (permIn_refl d2 mid b) o3)
                clear o3
                by_cases r6 : mid < e
                · have r6z : (mid : Int) < (e : Int) := by omega
                  have r7z : ¬ (e : Int) < (b : Int) := by omega
                  clear hright
                  go_wp2_with fail
                  all_goals
                    go_end0
                    exact ⟨rfl, d2, T2.out, permIn_trans _ _ _ _ _ P1.out HF.out.1, HF.out.2⟩
                · have r6z : ¬ (mid : Int) < (e : Int) := by omega
                  clear hright
                  go_wp2_with fail
                  all_goals
                    go_end0
                    exact ⟨rfl, d2, T2.out, permIn_trans _ _ _ _ _ P1.out HF.out.1, HF.out.2⟩

theorem symMerge_all {L : Int × Int → Int × Int → Bool} (hL : SWO L) (blk off cap : Nat) (d0 : Array (Int × Int)) (w0 : World) (R : Row2 w0 blk off d0) (hsz : d0.size < 4611686018427387904) : ∀ N, Merges L blk off cap d0 w0 N
  | 0 => fun a m b d w hN h1 h2 _ _ _ _ => by omega
  | N + 1 => fun a m b d w hN h1 h2 h3 hs S H => by
    by_cases c1 : m = a + 1
    · subst c1; exact symMerge_first hL blk off cap a b d0 d w0 w R hs S h2 h3 (by omega) H
    · by_cases c2 : b = m + 1
      · subst c2; exact symMerge_last hL blk off cap a m d0 d w0 w R hs S (by omega) h3 (by omega) H
      · by_cases c3 : (a + b) / 2 < m
        · exact symMerge_high hL blk off cap a m b N _ rfl c3 d0 d w0 w R hs S (by omega) (by omega) h3 (by omega) H (symMerge_all hL blk off cap d0 w0 R hsz N) hN
        · exact symMerge_low hL blk off cap a m b N _ rfl c3 d0 d w0 w R hs S (by omega) (by omega) h3 (by omega) H (symMerge_all hL blk off cap d0 w0 R hsz N) hN

end Go.Proofs.Ytndpblgedpdjdaa
