/- What is printed is read as it was: plain. -/
import Derived.Test.YtmicgfpiknibhaaPrintWalk
import Derived.Test.YtmicgfpiknibhaaLexParse
namespace Go.Proofs.Ytmicgfpiknibhaa

def byt (l : List Int) : List UInt8 := l.map fun z => UInt8.ofNat z.toNat
theorem byt_data (l : List Int) : (strOfNums l).data.toList = byt l := rfl
theorem byt_append (a b : List Int) : byt (a ++ b) = byt a ++ byt b := by simp [byt]
theorem byt_cons (a : Int) (b : List Int) : byt (a :: b) = UInt8.ofNat a.toNat :: byt b := rfl
theorem byt_len (a : List Int) : (byt a).length = a.length := by simp [byt]
/-- Digits, all. -/
def Dig (l : List Int) : Prop := ∀ z ∈ l, 48 ≤ z ∧ z ≤ 57
theorem byte_nat {z : Int} (h : 48 ≤ z ∧ z ≤ 57) : ((UInt8.ofNat z.toNat).toNat : Int) = z := by
  simp only [UInt8.toNat_ofNat']; omega
theorem byte_isD {z : Int} (h : 48 ≤ z ∧ z ≤ 57) : isD (UInt8.ofNat z.toNat) = true := by
  have := byte_nat h
  rw [isD_iff]; omega

theorem be_dig (least n : Nat) : Dig (be least n) := by
  by_cases h : 0 < n ∨ 0 < least
  · have ih := be_dig (least - 1) (n / 10)
    rw [be_step h]
    intro z hz
    rcases List.mem_append.1 hz with hz | hz
    · exact ih z hz
    · obtain rfl := List.mem_singleton.1 hz
      omega
  · rw [be_end h]; intro z hz; cases hz
termination_by n + least
decreasing_by omega

theorem be_whole (least n : Nat) (hn : n ≤ 1073741824) : wholeF (byt (be least n)) 0 = n := by
  by_cases h : 0 < n ∨ 0 < least
  · have ih := be_whole (least - 1) (n / 10) (by omega)
    rw [be_step h, byt_append]
    show wholeF (byt (be (least - 1) (n / 10)) ++ [UInt8.ofNat (48 + ((n % 10 : Nat) : Int)).toNat]) 0 = n
    rw [wholeF_snoc, ih, byte_nat (by omega)]
    unfold wholeN
    rw [if_neg (by omega)]; omega
  · rw [be_end h]
    show (0 : Int) = n
    omega
termination_by n + least
decreasing_by omega

theorem partF_cons (c : UInt8) (t : List UInt8) (a q : Int) : partF (c :: t) (a, q) = partF t (a + ((c.toNat : Int) - 48) * q, q / 10) := rfl

theorem fr_zero (k : Nat) : fr k 0 = [] := fr_end (by omega)
theorem fr_one (p : Nat) (hp : p < 10) (a : Int) : Dig (fr 1 p) ∧ (partF (byt (fr 1 p)) (a, 1)).1 = a + p := by
  by_cases h : p = 0
  · subst h; rw [fr_zero]; exact ⟨(fun z hz => by cases hz), (Int.add_zero a).symm⟩
  · rw [fr_on (by omega), fr_end (by omega)]
    refine ⟨(fun z hz => by obtain rfl := List.mem_singleton.1 hz; omega), ?_⟩
    rw [byt_cons, partF_cons, byte_nat (by omega)]
    show a + (48 + ((p / 1 : Nat) : Int) - 48) * 1 = a + p
    omega
theorem fr_ten (p : Nat) (hp : p < 100) (a : Int) : Dig (fr 10 p) ∧ (partF (byt (fr 10 p)) (a, 10)).1 = a + p := by
  by_cases h : p = 0
  · subst h; rw [fr_zero]; exact ⟨(fun z hz => by cases hz), (Int.add_zero a).symm⟩
  · rw [fr_on (by omega)]
    have ih := fr_one (p % 10) (by omega) (a + (48 + ((p / 10 : Nat) : Int) - 48) * 10)
    refine ⟨fun z hz => ?_, ?_⟩
    · rcases List.mem_cons.1 hz with rfl | hz
      · omega
      · exact ih.1 z hz
    · rw [byt_cons, partF_cons, byte_nat (by omega)]
      refine ih.2.trans ?_
      omega
theorem fr_hundred (p : Nat) (hp : p < 1000) (a : Int) : Dig (fr 100 p) ∧ (partF (byt (fr 100 p)) (a, 100)).1 = a + p := by
  by_cases h : p = 0
  · subst h; rw [fr_zero]; exact ⟨(fun z hz => by cases hz), (Int.add_zero a).symm⟩
  · rw [fr_on (by omega)]
    have ih := fr_ten (p % 100) (by omega) (a + (48 + ((p / 100 : Nat) : Int) - 48) * 100)
    refine ⟨fun z hz => ?_, ?_⟩
    · rcases List.mem_cons.1 hz with rfl | hz
      · omega
      · exact ih.1 z hz
    · rw [byt_cons, partF_cons, byte_nat (by omega)]
      refine ih.2.trans ?_
      omega

theorem dgs_byt : ∀ l : List Int, Dig l → dgs (byt l) = l.length
  | [], _ => rfl
  | z :: t, h => by
    have ih := dgs_byt t (fun x hx => h x (by simp [hx]))
    rw [byt_cons, dgs, if_pos (byte_isD (h z (by simp))), ih]; rfl
theorem dgs_byt_dot : ∀ (l : List Int) (r : List UInt8), Dig l → dgs (byt l ++ 46 :: r) = l.length
  | [], r, _ => rfl
  | z :: t, r, h => by
    have ih := dgs_byt_dot t r (fun x hx => h x (by simp [hx]))
    rw [byt_cons, List.cons_append, dgs, if_pos (byte_isD (h z (by simp))), ih]; rfl

theorem be_ne (q : Nat) : ∃ z t, be 1 q = z :: t ∧ 48 ≤ z ∧ z ≤ 57 := by
  have hd := be_dig 1 q
  cases e : be 1 q with
  | nil =>
    rw [be_step (by omega)] at e
    have := congrArg List.length e
    simp at this
  | cons z t => exact ⟨z, t, rfl, hd z (by rw [e]; simp)⟩

theorem pread_back (v : Nat) (hv : v ≤ 1073741824) (sg : List UInt8) (b : Bool) : pread (sg ++ byt (prt v)) sg.length b = (if b = true then -(v : Int) else v, 0) := by
  obtain ⟨z, t, hz, -, -⟩ := be_ne (v / 1000)
  have hn0 : ¬ (be 1 (v / 1000)).length = 0 := by rw [hz]; simp
  have hdg := be_dig 1 (v / 1000)
  have hw := be_whole 1 (v / 1000) (by omega)
  by_cases hp : v % 1000 = 0
  · have e : prt v = be 1 (v / 1000) := by unfold prt; rw [if_pos hp, List.append_nil]
    rw [e]
    have hd : dgs ((sg ++ byt (be 1 (v / 1000))).drop sg.length) = (be 1 (v / 1000)).length := by rw [List.drop_left, dgs_byt _ hdg]
    have hdot : dotted ((sg ++ byt (be 1 (v / 1000))).drop (sg.length + (be 1 (v / 1000)).length)) = false := by
      rw [List.drop_eq_nil_of_le (by rw [List.length_append, byt_len]; exact Nat.le_refl _)]; rfl
    rw [pread_whole hd hdot hn0 (by rw [List.length_append, byt_len]; omega), List.drop_left, ← byt_len, List.take_length, hw, hold_id (by omega) (by omega)]
    split <;> (apply Prod.ext <;> simp only <;> omega)
  · have e : prt v = be 1 (v / 1000) ++ 46 :: fr 100 (v % 1000) := by unfold prt; rw [if_neg hp]
    have hf := fr_hundred (v % 1000) (by omega) 0
    have hf0 : ¬ (fr 100 (v % 1000)).length = 0 := by rw [fr_on (by omega)]; simp
    rw [e, byt_append, byt_cons]
    have e46 : UInt8.ofNat (46 : Int).toNat = 46 := rfl
    rw [e46]
    generalize be 1 (v / 1000) = ds at *
    generalize fr 100 (v % 1000) = es at *
    have hd : dgs ((sg ++ (byt ds ++ 46 :: byt es)).drop sg.length) = ds.length := by rw [List.drop_left, dgs_byt_dot _ _ hdg]
    have hdr : (sg ++ (byt ds ++ 46 :: byt es)).drop (sg.length + ds.length) = 46 :: byt es := by
      rw [← List.drop_drop, List.drop_left, ← byt_len, List.drop_left]
    have hdr1 : (sg ++ (byt ds ++ 46 :: byt es)).drop (sg.length + ds.length + 1) = byt es := by
      rw [← List.drop_drop, hdr]; rfl
    have hdot : dotted ((sg ++ (byt ds ++ 46 :: byt es)).drop (sg.length + ds.length)) = true := by rw [hdr]; rfl
    have hm : dgs ((sg ++ (byt ds ++ 46 :: byt es)).drop (sg.length + ds.length + 1)) = es.length := by rw [hdr1, dgs_byt _ hf.1]
    have hlen : (sg ++ (byt ds ++ 46 :: byt es)).length = sg.length + ds.length + 1 + es.length := by simp [byt_len]; omega
    rw [pread_part hd hdot hm hf0 (by rw [hlen]; omega), List.drop_left, hdr1]
    have t1 : (byt ds ++ 46 :: byt es).take ds.length = byt ds := by rw [← byt_len, List.take_left]
    have t2 : (byt es).take es.length = byt es := by rw [← byt_len, List.take_length]
    rw [t1, t2, hw, hf.2, hold_id (by omega) (by omega)]
    split <;> (apply Prod.ext <;> simp only <;> omega)

/-- What is printed is read as it was. -/
theorem parse_back (n : Int) : rparse (strOfNums (prtI n)).data.toList = (hold n, 0) := by
  have hb := hold_bd n
  rw [byt_data, ← parse_same]
  unfold pparse prtI
  by_cases h : hold n < 0
  · rw [if_pos h]
    have hv := pread_back (-(hold n)).toNat (by omega) [45] true
    have e1 : sgn (byt (45 :: prt (-(hold n)).toNat)) = 1 := rfl
    have e2 : minus (byt (45 :: prt (-(hold n)).toNat)) = true := rfl
    rw [e1, e2]
    refine hv.trans ?_
    rw [if_pos rfl]
    apply Prod.ext <;> simp only <;> omega
  · rw [if_neg h]
    have hv := pread_back (hold n).toNat (by omega) [] false
    obtain ⟨z, t, hz, h1, h2⟩ := be_ne ((hold n).toNat / 1000)
    have hbn := byte_nat ⟨h1, h2⟩
    have e0 : ∃ t', byt (prt (hold n).toNat) = UInt8.ofNat z.toNat :: t' := by
      unfold prt; rw [hz, List.cons_append, byt_cons]; exact ⟨_, rfl⟩
    obtain ⟨t', e0⟩ := e0
    have e1 : sgn (byt (prt (hold n).toNat)) = 0 := by rw [e0, sgn_cons, if_neg (by omega)]
    have e2 : minus (byt (prt (hold n).toNat)) = false := by
      rw [e0]; unfold minus
      simp only [List.head?_cons, Option.map_some, Option.some.injEq, decide_eq_false_iff_not]
      omega
    rw [e1, e2]
    refine hv.trans ?_
    rw [if_neg (by decide)]
    apply Prod.ext <;> simp only <;> omega

end Go.Proofs.Ytmicgfpiknibhaa
