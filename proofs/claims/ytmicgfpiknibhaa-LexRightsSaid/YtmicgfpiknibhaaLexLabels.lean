/- A scope with many labels. -/
import Derived.Test.YtmicgfpiknibhaaLexMeasP
import Derived.ScopeJumps
namespace Go.Proofs.Ytmicgfpiknibhaa
open Go.RowKit
set_option linter.unusedSimpArgs false
set_option linter.unusedVariables false

/-- As Q; by a goto to a label: what holds there. -/
def jumps (J : Nat → Act → World → Prop) (Q : Exit → Act → World → Prop) : Exit → Act → World → Prop
  | .goto l, a, w => J l a w
  | e, a, w => Q e a w

theorem wp_scope_many {P : Program} {a : Act} {w : World} {Q : Exit → Act → World → Prop} {c : Code} (J : Nat → Act → World → Prop) (μ : Nat → Act → World → Nat)
    (first : c.wp P (jumps J Q) a w)
    (pass : ∀ l a w, J l a w → ∃ rest, findLabel c l = some rest ∧ rest.wp P (jumps (fun l' a' w' => J l' a' w' ∧ μ l' a' w' < μ l a w) Q) a w) : (Code.scope c).wp P Q a w := by
  intro b k cs
  have hg : ∀ l rest, findLabel c l = some rest → gotoIn l (.inScope c :: k) = some (.code rest :: .inScope c :: k) := fun l rest hf => by simp [gotoIn, hf]
  have key : ∀ n l a w, μ l a w = n → J l a w → ∃ rest, findLabel c l = some rest ∧ ∃ e a' w', Q e a' w' ∧ Arrives P (lone (b.at a (.code rest :: .inScope c :: k)) cs w) b k cs e a' w' := by
    intro n
    induction n using Nat.strongRecOn with
    | _ n ih =>
      intro l a w hn hJ
      obtain ⟨rest, hf, hp⟩ := pass l a w hJ
      refine ⟨rest, hf, ?_⟩
      obtain ⟨e, a₁, w₁, hq, harr⟩ := hp b (.inScope c :: k) cs
      cases e with
      | normal => exact ⟨.normal, a₁, w₁, hq, Steps.trans harr (.one step_inScope)⟩
      | exit id => exact ⟨.exit id, a₁, w₁, hq, fun k' hk => harr k' (by simp [exitTo, hk])⟩
      | goto l' =>
        obtain ⟨hJ', hlt⟩ := hq
        obtain ⟨rest', hf', e₂, a₂, w₂, hq₂, harr₂⟩ := ih _ (by omega) l' a₁ w₁ rfl hJ'
        exact ⟨e₂, a₂, w₂, hq₂, .of_steps (harr _ (hg _ _ hf')) harr₂⟩
      | ret => exact ⟨_, a₁, w₁, hq, harr⟩
      | panic ch => exact ⟨_, a₁, w₁, hq, harr⟩
      | outgrown => exact ⟨_, a₁, w₁, hq, harr⟩
  obtain ⟨e, a₁, w₁, hq, harr⟩ := first b (.inScope c :: k) cs
  cases e with
  | normal => exact ⟨.normal, a₁, w₁, hq, .head step_scope (Steps.trans harr (.one step_inScope))⟩
  | exit id => exact ⟨.exit id, a₁, w₁, hq, fun k' hk => .head step_scope (harr k' (by simp [exitTo, hk]))⟩
  | goto l' =>
    obtain ⟨rest', hf', e₂, a₂, w₂, hq₂, harr₂⟩ := key _ l' a₁ w₁ rfl hq
    exact ⟨e₂, a₂, w₂, hq₂, .of_steps (.head step_scope (harr _ (hg _ _ hf'))) harr₂⟩
  | ret => exact ⟨_, a₁, w₁, hq, .of_steps (.one step_scope) harr⟩
  | panic ch => exact ⟨_, a₁, w₁, hq, .of_steps (.one step_scope) harr⟩
  | outgrown => exact ⟨_, a₁, w₁, hq, .of_steps (.one step_scope) harr⟩

/-- Any list of a known length is its entries. -/
theorem list_fn (l : List Value) : l = (List.range l.length).map (fun i => l.getD i undef) := by
  apply List.ext_getElem
  · simp
  · intro i h1 h2
    simp [List.getD_eq_getElem?_getD, List.getElem?_eq_getElem h1]

/-- The code of the lexer's loop, taken out of the function. -/
def firstScope : Code → Option Code
  | .scope c => some c
  | .seq a b => match firstScope a with
    | some c => some c
    | none => firstScope b
  | .block _ c => firstScope c
  | .loop c => firstScope c
  | _ => none
noncomputable def lexBody : Code := (Try.f19.body.bind firstScope).getD .skip
noncomputable def lexRest (l : Nat) : Code := (findLabel lexBody l).getD .skip

def stripSkip : Code → Code
  | .seq .skip b => b
  | c => c
noncomputable def lexTop : Code := stripSkip (lexRest 0)

/-- The lexer's frame: its text, its place in memory; what else. -/
def lxFrame (s : ByteArray) (r : Nat) (f : Nat → Value) : Array Value := #[.string s, f 1, f 2, .pointer (some ⟨r, 0, none⟩), f 4, f 5, f 6, f 7, f 8, f 9, f 10, f 11, f 12, f 13, f 14, f 15, f 16, f 17, f 18, f 19, f 20, f 21, f 22, f 23, f 24, f 25, f 26, f 27, f 28, f 29, f 30, f 31, f 32, f 33, f 34, f 35, f 36, f 37, f 38, f 39, f 40, f 41, f 42, f 43, f 44, f 45, f 46, f 47, f 48, f 49, f 50, f 51, f 52, f 53, f 54, f 55, f 56, f 57, f 58, f 59, f 60, f 61, f 62, f 63, f 64, f 65, f 66, f 67, f 68, f 69, f 70, f 71, f 72, f 73, f 74, f 75, f 76, f 77, f 78, f 79, f 80, f 81, f 82, f 83, f 84, f 85, f 86, f 87, f 88, f 89, f 90, f 91, f 92, f 93, f 94, f 95, f 96, f 97, f 98, f 99, f 100, f 101, f 102, f 103, f 104, f 105, f 106, f 107, f 108, f 109, f 110, f 111, f 112, f 113, f 114, f 115, f 116, f 117, f 118, f 119, f 120, f 121, f 122, f 123, f 124, f 125, f 126, f 127, f 128, f 129, f 130, f 131, f 132, f 133, f 134, f 135, f 136, f 137, f 138, f 139, f 140, f 141, f 142, f 143, f 144, f 145, f 146, f 147, f 148, f 149, f 150, f 151, f 152, f 153, f 154, f 155, f 156]
/-- What is known at a label of the place p. -/
def lab (s : ByteArray) (p : Nat) (c4 : Value) : Nat → Prop
  | 0 => p ≤ s.size
  | 1 => p + 2 ≤ s.size ∧ oneT (s.data.toList.drop p) = (none, 2 + behind (s.data.toList.drop (p + 2)))
  | 2 => p < s.size ∧ oneT (s.data.toList.drop p) = (some ⟨20, [], 0⟩, runL isS (s.data.toList.drop p))
  | 3 => p < s.size ∧ ∃ q : Nat, c4 = .int .u8 (q : Int) ∧ oneT (s.data.toList.drop p) = (some (quoted q (s.data.toList.drop (p + 1))).1, (quoted q (s.data.toList.drop (p + 1))).2)
  | 4 => p < s.size ∧ 0 < num (s.data.toList.drop p) ∧ oneT (s.data.toList.drop p) = (some (measured (s.data.toList.drop p) (num (s.data.toList.drop p))).1, (measured (s.data.toList.drop p) (num (s.data.toList.drop p))).2)
  | 5 => p < s.size ∧ oneT (s.data.toList.drop p) = (some ⟨4, (s.data.toList.drop (p + 1)).take (runL isG (s.data.toList.drop (p + 1))), 0⟩, 1 + runL isG (s.data.toList.drop (p + 1)))
  | 6 => p < s.size ∧ oneT (s.data.toList.drop p) = (some ⟨3, (s.data.toList.drop (p + 1)).take (runL isG (s.data.toList.drop (p + 1))), 0⟩, 1 + runL isG (s.data.toList.drop (p + 1)))
  | 7 => p < s.size ∧ oneT (s.data.toList.drop p) = (some (named (s.data.toList.drop p)).1, (named (s.data.toList.drop p)).2)
  | _ => False
/-- What is known at a label. -/
def LJ (s : ByteArray) (r : Nat) (w0 : World) (C : List Tk) (l : Nat) (a : Act) (w : World) : Prop :=
  ∃ (f : Nat → Value) (p : Nat) (L : List Tk), a = ⟨lxFrame s r f, []⟩ ∧ lab s p (f 4) l ∧ L.length ≤ p ∧ L ++ cut (s.data.toList.drop p) = C ∧ Lo w r s p L ∧ Below r w0 w
def Lmu (s : ByteArray) (r : Nat) (l : Nat) (_ : Act) (w : World) : Nat := 2 * (s.size - atOf w r) + if l = 0 then 1 else 0
/-- The exit of a pass. -/
def LQ (s : ByteArray) (r : Nat) (w0 : World) (C : List Tk) (l : Nat) (p : Nat) (Q : Exit → Act → World → Prop) : Exit → Act → World → Prop :=
  jumps (fun l' a' w' => LJ s r w0 C l' a' w' ∧ Lmu s r l' a' w' < 2 * (s.size - p) + if l = 0 then 1 else 0) Q
/-- A pass of a label ends at the loop's begin, further on. -/
theorem lq_next {s : ByteArray} {r : Nat} {w0 : World} {C : List Tk} {l p : Nat} {Q : Exit → Act → World → Prop} {w' : World} {T : Array Value} (q : Nat) (L : List Tk) (hT : T = lxFrame s r (fun i => T.getD i undef)) (hl : l ≠ 0) (hpq : p < q) (hq : q ≤ s.size)
    (hL : L.length ≤ q) (hC : L ++ cut (s.data.toList.drop q) = C) (hLo : Lo w' r s q L) (hb : Below r w0 w') : LQ s r w0 C l p Q (.goto 0) ⟨T, []⟩ w' := by
  refine ⟨⟨_, q, L, congrArg (fun t => (⟨t, []⟩ : Act)) hT, hq, hL, hC, hLo, hb⟩, ?_⟩
  obtain ⟨v, hx, -⟩ := hLo
  unfold Lmu
  rw [atOf_is hx, if_pos rfl, if_neg hl]
  omega
/-- A pass of the loop's begin goes to a label. -/
theorem lq_label {s : ByteArray} {r : Nat} {w0 : World} {C : List Tk} {p l' : Nat} {Q : Exit → Act → World → Prop} {w' : World} {T : Array Value} (L : List Tk) (hT : T = lxFrame s r (fun i => T.getD i undef)) (hl : l' ≠ 0) (hlab : lab s p (T.getD 4 undef) l')
    (hL : L.length ≤ p) (hC : L ++ cut (s.data.toList.drop p) = C) (hLo : Lo w' r s p L) (hb : Below r w0 w') : LQ s r w0 C 0 p Q (.goto l') ⟨T, []⟩ w' := by
  refine ⟨⟨_, p, L, congrArg (fun t => (⟨t, []⟩ : Act)) hT, hlab, hL, hC, hLo, hb⟩, ?_⟩
  obtain ⟨v, hx, -⟩ := hLo
  unfold Lmu
  rw [atOf_is hx, if_neg hl, if_pos rfl]
  omega
theorem lq_again {s : ByteArray} {r : Nat} {w0 : World} {C : List Tk} {p : Nat} {Q : Exit → Act → World → Prop} {w' : World} {T : Array Value} (q : Nat) (L : List Tk) (hT : T = lxFrame s r (fun i => T.getD i undef)) (hpq : p < q) (hq : q ≤ s.size)
    (hL : L.length ≤ q) (hC : L ++ cut (s.data.toList.drop q) = C) (hLo : Lo w' r s q L) (hb : Below r w0 w') : LQ s r w0 C 0 p Q (.goto 0) ⟨T, []⟩ w' := by
  refine ⟨⟨_, q, L, congrArg (fun t => (⟨t, []⟩ : Act)) hT, hq, hL, hC, hLo, hb⟩, ?_⟩
  obtain ⟨v, hx, -⟩ := hLo
  unfold Lmu
  rw [atOf_is hx, if_pos rfl]
  omega
/-- A step of the cut. -/
theorem cut_next {s : ByteArray} {a n : Nat} {o : Option Tk} {L C : List Tk} (ha : a < s.size) (h : oneT (s.data.toList.drop a) = (o, n)) (hC : L ++ cut (s.data.toList.drop a) = C) : a < a + n ∧ a + n ≤ s.size ∧ (L ++ o.toList) ++ cut (s.data.toList.drop (a + n)) = C := by
  have hne : s.data.toList.drop a ≠ [] := by rw [drop_at s a ha]; simp
  have hbd := oneT_bd _ hne
  rw [h, List.length_drop, len_data] at hbd
  dsimp only at hbd
  rw [cut_step hne, h, List.drop_drop, ← List.append_assoc] at hC
  exact ⟨by omega, by omega, hC⟩

end Go.Proofs.Ytmicgfpiknibhaa
