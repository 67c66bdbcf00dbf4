/- What the program reads is what the reference reads: plain. -/
import Derived.Test.YtmicgfpiknibhaaParseWalk
import Derived.Test.YtmicgfpiknibhaaWorthOnly
namespace Go.Proofs.Ytmicgfpiknibhaa

/-- The two ways of gathering digits: capped at 2^50 and at 2^30. -/
def gath (l : List UInt8) (v : Int) : Int := l.foldl (fun v c => if 1125899906842624 < v * 10 + ((c.toNat : Int) - 48) then 1125899906842624 else v * 10 + ((c.toNat : Int) - 48)) v

theorem gath_bd : ∀ (l : List UInt8) (v : Int), (∀ c ∈ l, isD c = true) → 0 ≤ v → v ≤ 1125899906842624 → 0 ≤ gath l v ∧ gath l v ≤ 1125899906842624
  | [], v, _, h1, h2 => ⟨h1, h2⟩
  | c :: t, v, h, h1, h2 => by
    have hc := (isD_iff c).1 (h c (by simp))
    refine gath_bd t _ (fun x hx => h x (by simp [hx])) ?_ ?_ <;> (simp only; split <;> omega)

theorem whole_gath : ∀ (l : List UInt8) (a v : Int), (∀ c ∈ l, isD c = true) → 0 ≤ v → a = (if 1073741824 < v then 1073741824 else v) → wholeF l a = (if 1073741824 < gath l v then 1073741824 else gath l v)
  | [], a, v, _, _, h => h
  | c :: t, a, v, h, hv, ha => by
    have hc := (isD_iff c).1 (h c (by simp))
    refine whole_gath t (wholeN a ((c.toNat : Int) - 48)) (if 1125899906842624 < v * 10 + ((c.toNat : Int) - 48) then 1125899906842624 else v * 10 + ((c.toNat : Int) - 48)) (fun x hx => h x (by simp [hx])) ?_ ?_
    · split <;> omega
    · unfold wholeN
      rw [ha]
      split <;> split <;> split <;> (try split) <;> omega

/-- Digits before a point. -/
theorem wfold_whole : ∀ (l : List UInt8) (v : Int), (∀ c ∈ l, isD c = true) → l.foldl wstep (v, -1) = (gath l v, -1)
  | [], v, _ => rfl
  | c :: t, v, h => by
    have e := wstep_add (v, -1) c (h c (by simp)) (by show (-1 : Int) ≠ 0; decide)
    rw [List.foldl_cons, e]
    exact wfold_whole t _ (fun x hx => h x (by simp [hx]))
theorem wfold_full : ∀ (l : List UInt8) (v : Int), (∀ c ∈ l, isD c = true) → l.foldl wstep (v, 0) = (v, 0)
  | [], v, _ => rfl
  | c :: t, v, h => by
    rw [List.foldl_cons, wstep_full (v, 0) c (h c (by simp)) rfl]
    exact wfold_full t v (fun x hx => h x (by simp [hx]))
theorem partF_full : ∀ (l : List UInt8) (p : Int), partF l (p, 0) = (p, 0)
  | [], p => rfl
  | c :: t, p => by
    show partF t (p + ((c.toNat : Int) - 48) * 0, 0 / 10) = (p, 0)
    rw [Int.mul_zero, Int.add_zero]; exact partF_full t p

/-- One more digit, capped. -/
def capW (v d : Int) : Int := if 1125899906842624 < v * 10 + d then 1125899906842624 else v * 10 + d
theorem capW_is (v d : Int) : capW v d = v * 10 + d ∨ (capW v d = 1125899906842624 ∧ 1125899906842624 < v * 10 + d) := by unfold capW; split <;> omega
theorem wadd (v l : Int) (c : UInt8) (h : isD c = true) (hl : 0 < l) : wstep (v, l) c = (capW v ((c.toNat : Int) - 48), l - 1) := by
  rw [wstep_add (v, l) c h (by show l ≠ 0; omega)]
  simp only [if_pos hl]; rfl
theorem hold_same {a b : Int} (h : a = b ∨ (1073741824 ≤ a ∧ 1073741824 ≤ b)) : hold a = hold b := by
  rcases h with rfl | ⟨h1, h2⟩
  · rfl
  · unfold hold; split <;> split <;> (try split) <;> (try split) <;> omega
theorem part1 (a : Int) : wtail a 3 = a * 1000 ∧ wtail a 2 = a * 100 ∧ wtail a 1 = a * 10 ∧ wtail a 0 = a := ⟨rfl, rfl, rfl, rfl⟩

/-- With the digits behind a point: the worth, held, is what the program makes of it. -/
theorem hold_part (V : Int) (hV0 : 0 ≤ V) (hV1 : V ≤ 1125899906842624) (l : List UInt8) (h : ∀ c ∈ l, isD c = true) :
    hold (wtail (l.foldl wstep (V, 3)).1 (l.foldl wstep (V, 3)).2) = hold (1000 * (if 1073741824 < V then 1073741824 else V) + (partF l (0, 100)).1)
    ∧ 0 ≤ wtail (l.foldl wstep (V, 3)).1 (l.foldl wstep (V, 3)).2 := by
  rcases l with _ | ⟨a, _ | ⟨b, _ | ⟨c, t⟩⟩⟩
  · show hold (V * 1000) = hold (1000 * _ + 0) ∧ 0 ≤ V * 1000
    refine ⟨hold_same ?_, by omega⟩
    split <;> omega
  · have ha := (isD_iff a).1 (h a (by simp))
    have e : [a].foldl wstep (V, 3) = (capW V ((a.toNat : Int) - 48), 2) := wadd V 3 a (h a (by simp)) (by decide)
    have ep : (partF [a] (0, 100)).1 = 0 + ((a.toNat : Int) - 48) * 100 := rfl
    rw [e, ep]
    have k1 := capW_is V ((a.toNat : Int) - 48)
    generalize capW V ((a.toNat : Int) - 48) = V1 at *
    show hold (V1 * 100) = _ ∧ 0 ≤ V1 * 100
    refine ⟨hold_same ?_, by omega⟩
    split <;> omega
  · have ha := (isD_iff a).1 (h a (by simp))
    have hb := (isD_iff b).1 (h b (by simp))
    have e : [a, b].foldl wstep (V, 3) = (capW (capW V ((a.toNat : Int) - 48)) ((b.toNat : Int) - 48), 1) := by
      show wstep (wstep (V, 3) a) b = _
      rw [wadd V 3 a (h a (by simp)) (by decide)]
      exact wadd _ 2 b (h b (by simp)) (by decide)
    have ep : (partF [a, b] (0, 100)).1 = 0 + ((a.toNat : Int) - 48) * 100 + ((b.toNat : Int) - 48) * 10 := rfl
    rw [e, ep]
    have k1 := capW_is V ((a.toNat : Int) - 48)
    generalize capW V ((a.toNat : Int) - 48) = V1 at *
    have k2 := capW_is V1 ((b.toNat : Int) - 48)
    generalize capW V1 ((b.toNat : Int) - 48) = V2 at *
    show hold (V2 * 10) = _ ∧ 0 ≤ V2 * 10
    refine ⟨hold_same ?_, by omega⟩
    split <;> omega
  · have ha := (isD_iff a).1 (h a (by simp))
    have hb := (isD_iff b).1 (h b (by simp))
    have hc := (isD_iff c).1 (h c (by simp))
    have e : (a :: b :: c :: t).foldl wstep (V, 3) = (capW (capW (capW V ((a.toNat : Int) - 48)) ((b.toNat : Int) - 48)) ((c.toNat : Int) - 48), 0) := by
      show t.foldl wstep (wstep (wstep (wstep (V, 3) a) b) c) = _
      rw [wadd V 3 a (h a (by simp)) (by decide), wadd _ (3 - 1) b (h b (by simp)) (by decide), wadd _ (3 - 1 - 1) c (h c (by simp)) (by decide)]
      exact wfold_full t _ (fun x hx => h x (by simp [hx]))
    have ep : (partF (a :: b :: c :: t) (0, 100)).1 = 0 + ((a.toNat : Int) - 48) * 100 + ((b.toNat : Int) - 48) * 10 + ((c.toNat : Int) - 48) * 1 := by
      have := partF_full t (0 + ((a.toNat : Int) - 48) * 100 + ((b.toNat : Int) - 48) * (100 / 10) + ((c.toNat : Int) - 48) * (100 / 10 / 10))
      show (partF t (0 + ((a.toNat : Int) - 48) * 100 + ((b.toNat : Int) - 48) * (100 / 10) + ((c.toNat : Int) - 48) * (100 / 10 / 10), 100 / 10 / 10 / 10)).1 = _
      exact congrArg Prod.fst this
    rw [e, ep]
    have k1 := capW_is V ((a.toNat : Int) - 48)
    generalize capW V ((a.toNat : Int) - 48) = V1 at *
    have k2 := capW_is V1 ((b.toNat : Int) - 48)
    generalize capW V1 ((b.toNat : Int) - 48) = V2 at *
    have k3 := capW_is V2 ((c.toNat : Int) - 48)
    generalize capW V2 ((c.toNat : Int) - 48) = V3 at *
    show hold V3 = _ ∧ 0 ≤ V3
    refine ⟨hold_same ?_, by omega⟩
    split <;> omega

theorem hold_neg (x : Int) : hold (-x) = -hold x := by unfold hold; (repeat' split) <;> omega

theorem sgn_cons (c : UInt8) (t : List UInt8) : sgn (c :: t) = if c.toNat = 43 ∨ c.toNat = 45 then 1 else 0 := rfl
/-- The gathering over sign, digits, point, digits. -/
theorem gather_parts (sg ds es : List UInt8) (hs : sg = [] ∨ ∃ c, sg = [c] ∧ (c.toNat = 43 ∨ c.toNat = 45)) (p : UInt8) (hp : p.toNat = 46) (hd : ∀ c ∈ ds, isD c = true) :
    wgather (sg ++ ds) = (gath ds 0, -1) ∧ wgather (sg ++ ds ++ p :: es) = es.foldl wstep (gath ds 0, 3) := by
  have h0 : sg.foldl wstep (0, -1) = (0, -1) := by
    rcases hs with rfl | ⟨c, rfl, hc⟩
    · rfl
    · have hn : isD c = false := by
        cases h : isD c with
        | false => rfl
        | true => have := (isD_iff c).1 h; omega
      exact wstep_other (0, -1) c (by omega) hn
  have h1 : wgather (sg ++ ds) = (gath ds 0, -1) := by
    unfold wgather; rw [List.foldl_append, h0]; exact wfold_whole ds 0 hd
  refine ⟨h1, ?_⟩
  have : wgather (sg ++ ds ++ p :: es) = (p :: es).foldl wstep (wgather (sg ++ ds)) := by unfold wgather; rw [List.foldl_append]
  rw [this, h1, List.foldl_cons, wstep_dot _ p hp]

theorem take_sgn (l : List UInt8) : l.take (sgn l) = [] ∨ ∃ c, l.take (sgn l) = [c] ∧ (c.toNat = 43 ∨ c.toNat = 45) := by
  cases l with
  | nil => exact .inl rfl
  | cons c t =>
    rw [sgn_cons]
    by_cases h : c.toNat = 43 ∨ c.toNat = 45
    · rw [if_pos h]; exact .inr ⟨c, rfl, h⟩
    · rw [if_neg h]; exact .inl rfl
theorem dotted_is (l : List UInt8) (h : dotted l = true) : ∃ p t, l = p :: t ∧ p.toNat = 46 := by
  cases l with
  | nil => cases h
  | cons p t => exact ⟨p, t, rfl, by simpa [dotted] using h⟩
theorem sgn_le (l : List UInt8) : sgn l ≤ l.length := by
  cases l with
  | nil => exact Nat.le_refl _
  | cons c t => rw [sgn_cons]; split <;> simp

/-- What the program reads of a list. -/
def pparse (l : List UInt8) : Int × Int := pread l (sgn l) (minus l)

theorem parse_same (l : List UInt8) : pparse l = rparse l := by
  have hk := sgn_le l
  have hn := dgs_le (l.drop (sgn l))
  rw [List.length_drop] at hn
  have hsg := take_sgn l
  have hgd := dgs_take (l.drop (sgn l))
  unfold pparse rparse
  have hnum : num l = num l := rfl
  conv at hnum => rhs; unfold num
  simp only at hnum
  by_cases hd : dotted (l.drop (sgn l + dgs (l.drop (sgn l)))) = true
  · obtain ⟨p, t, hpt, hp⟩ := dotted_is _ hd
    have hlen := congrArg List.length hpt
    rw [List.length_drop, List.length_cons] at hlen
    have ht : l.drop (sgn l + dgs (l.drop (sgn l)) + 1) = t := by
      have := congrArg (List.drop 1) hpt
      rw [List.drop_drop] at this
      exact this
    have hgt := dgs_take t
    have hm := dgs_le t
    by_cases h0 : dgs t = 0 ∨ sgn l + dgs (l.drop (sgn l)) + 1 + dgs t < l.length
    · rw [pread_none rfl hd (by rw [ht]) h0, if_pos]
      right
      rw [hnum, ht]
      split
      · omega
      · split <;> omega
    · have hif : ¬ (l.length = 0 ∨ num l ≠ l.length) := by
        have e : num l = sgn l + dgs (l.drop (sgn l)) + 1 + dgs t := by rw [hnum, ht, if_pos ⟨hd, by omega⟩]
        omega
      rw [pread_part rfl hd (by rw [ht]) (fun h => h0 (.inl h)) (fun h => h0 (.inr h)), if_neg hif]
      · have hdt : dgs t = t.length := by omega
        rw [ht, hdt, List.take_length]
        rw [hdt, List.take_length] at hgt
        have hl : l = l.take (sgn l) ++ (l.drop (sgn l)).take (dgs (l.drop (sgn l))) ++ p :: t := by
          rw [← hpt, ← List.drop_drop, List.append_assoc, List.take_append_drop, List.take_append_drop]
        have hg := gather_parts (l.take (sgn l)) ((l.drop (sgn l)).take (dgs (l.drop (sgn l)))) t hsg p hp hgd
        rw [← hl] at hg
        generalize (l.drop (sgn l)).take (dgs (l.drop (sgn l))) = ds at *
        have hb := gath_bd ds 0 hgd (by decide) (by decide)
        have hw := whole_gath ds 0 0 hgd (by decide) rfl
        have hh := hold_part (gath ds 0) hb.1 hb.2 t hgt
        rw [worth_eq, hg.2, hw]
        rw [← hh.1]
        split
        · rw [hold_neg]
        · rfl
  · have hd : dotted (l.drop (sgn l + dgs (l.drop (sgn l)))) = false := by simpa using hd
    by_cases h0 : dgs (l.drop (sgn l)) = 0 ∨ sgn l + dgs (l.drop (sgn l)) < l.length
    · rw [pread_zero rfl hd h0, if_pos]
      by_cases hl0 : l.length = 0
      · exact .inl hl0
      · right
        rw [hnum, if_neg (by simp [hd])]
        split <;> omega
    · have hif : ¬ (l.length = 0 ∨ num l ≠ l.length) := by
        have e : num l = sgn l + dgs (l.drop (sgn l)) := by rw [hnum, if_neg (by simp [hd]), if_neg (by omega)]
        omega
      rw [pread_whole rfl hd (fun h => h0 (.inl h)) (fun h => h0 (.inr h)), if_neg hif]
      · have hl : l = l.take (sgn l) ++ (l.drop (sgn l)).take (dgs (l.drop (sgn l))) := by
          have e : dgs (l.drop (sgn l)) = (l.drop (sgn l)).length := by rw [List.length_drop]; omega
          rw [e, List.take_length, List.take_append_drop]
        have hg := gather_parts (l.take (sgn l)) ((l.drop (sgn l)).take (dgs (l.drop (sgn l)))) [] hsg 46 rfl hgd
        rw [← hl] at hg
        generalize (l.drop (sgn l)).take (dgs (l.drop (sgn l))) = ds at *
        have hb := gath_bd ds 0 hgd (by decide) (by decide)
        have hw := whole_gath ds 0 0 hgd (by decide) rfl
        rw [worth_eq, hg.1, hw]
        have hh : hold (wtail (gath ds 0) (-1)) = hold (1000 * if 1073741824 < gath ds 0 then 1073741824 else gath ds 0) := by
          show hold (gath ds 0 * 1000) = _
          refine hold_same ?_
          split <;> omega
        rw [← hh]
        split
        · rw [hold_neg]
        · rfl

theorem minus_seen (s : ByteArray) : seen s 0 45 = minus s.data.toList := by
  unfold seen
  by_cases h : 0 < s.size
  · rw [dif_pos h, minus_at s h]
  · have e : s.data.toList = [] := List.length_eq_zero_iff.1 (by rw [len_data]; omega)
    rw [dif_neg h, e]; rfl
theorem parseP_eq (s : ByteArray) : parseP s = rparse s.data.toList := by
  rw [← parse_same]; unfold parseP pparse; rw [minus_seen]

end Go.Proofs.Ytmicgfpiknibhaa
