/- The lexer: lexed, Lex. -/
import Derived.Test.YtmicgfpiknibhaaLexNext
import Derived.Test.YtmicgfpiknibhaaLexLoop
namespace Go.Proofs.Ytmicgfpiknibhaa
open Go.RowKit
set_option linter.unusedSimpArgs false
set_option linter.unusedVariables false
attribute [local go_sem] cell?_ext frozen?_ext lt_size_ext

theorem own_lower {w : World} {r m : Nat} {e : TypeId} {size n : Nat} {v : Value} {xs : List Value} (h : w.ownsRow r e size v n xs) (hm : m ≤ r) : w.ownsRow m e size v n xs := by
  refine ⟨h.1, ?_⟩
  rcases h.2 with h2 | ⟨g, cap, cur, e, hb, h3⟩
  · exact .inl h2
  · exact .inr ⟨g, cap, cur, e, Nat.le_trans hm hb, h3⟩


theorem frame_fn {s : ByteArray} {r : Nat} {T : Array Value} {Q : Exit → Act → World → Prop} {w : World} {c : Code} (hT : T = lxFrame s r (fun i => T.getD i undef)) (h : ∀ f, c.wp Try.prog Q ⟨lxFrame s r f, []⟩ w) : c.wp Try.prog Q ⟨T, []⟩ w := by
  rw [hT]; exact h _

set_option maxHeartbeats 4000000 in
set_option maxRecDepth 100000 in
theorem lexed_any (s : ByteArray) (hs : s.size ≤ 1000000) (w : World) (hg : Gm w) :
    Calls Try.prog 19 #[.string s] w fun e w' => ∃ v, e = .returned v ∧ w'.ownsRow w.heap.size 23 3 v (cut s.data.toList).length (tkCells (cut s.data.toList)) ∧ Below w.heap.size w w' := by
  obtain ⟨C, hC⟩ : ∃ C, C = cut s.data.toList := ⟨_, rfl⟩
  rw [← hC]
  have hr0 := hg.lt
  go_enter Try.func19, Try.ntmps19
  go_wp2_with fail
  rename_i Q0
  have hret : ∀ (T : Array Value) (v : Value) (w' : World), T.getD 2 undef = v → w'.ownsRow (w.heap.size + 1) 23 3 v C.length (tkCells C) → Below w.heap.size w w' → Q0 .ret ⟨T, []⟩ w' := by
    intro T v w' h1 h2 h3
    refine bodyPost_ret (results_tmp rfl _ _ _) rfl ?_
    exact ⟨_, rfl, by rw [← h1] at h2; exact own_lower h2 (Nat.le_succ _), h3⟩
  refine wp_scope_many (LJ s w.heap.size w C) (Lmu s w.heap.size) ?first ?pass
  case first =>
    go_wp2_with fail
    go_step3
    rename_i K0 hK0
    refine hK0 _ _ (Code.wp_mono ?_ (frame_fn (by rfl) (fun f => loop_any s w.heap.size 0 (.slice none 0 0) [] w _ C Q0 f hs (Nat.le_refl _) hC.symm (Blk.new w _ _) (World.ownsRow_nil _ _ _ _) ((Below.refl _ w).alloc (Nat.le_refl _) _) (Nat.zero_le _) hret)))
    intro e a' w' h
    cases e with
    | goto l => exact h.1
    | _ => exact h
  case pass =>
    intro l a w1 hJ
    obtain ⟨f, p, L, rfl, hlab, hL, hCC, ⟨v, hx, ho⟩, hb⟩ := hJ
    have hmu : Lmu s w.heap.size l ⟨lxFrame s w.heap.size f, []⟩ w1 = 2 * (s.size - p) + if l = 0 then 1 else 0 := by unfold Lmu; rw [atOf_is hx]
    rw [hmu]
    clear hmu
    refine ⟨lexRest l, ?_, ?_⟩
    · rcases l with _ | _ | _ | _ | _ | _ | _ | _ | l
      · kernel_rfl
      · kernel_rfl
      · kernel_rfl
      · kernel_rfl
      · kernel_rfl
      · kernel_rfl
      · kernel_rfl
      · kernel_rfl
      · exact hlab.elim
    · show (lexRest l).wp Try.prog (LQ s w.heap.size w C l p Q0) ⟨lxFrame s w.heap.size f, []⟩ w1
      rcases l with _ | _ | _ | _ | _ | _ | _ | _ | l
      · have h := loop_any s w.heap.size p v L w w1 C Q0 f hs hL hCC hx ho hb hlab hret
        have e : lexRest 0 = Code.skip.seq lexTop := by kernel_rfl
        rw [e]
        exact wp_seq (wp_skip h)
      · exact pass_comment s w.heap.size p v L w w1 C Q0 f hs hr0 hg hlab hL hCC hx ho hb
      · exact pass_space s w.heap.size p v L w w1 C Q0 f hs hr0 hg hlab hL hCC hx ho hb
      · exact pass_text s w.heap.size p v L w w1 C Q0 f hs hr0 hg hlab hL hCC hx ho hb
      · exact pass_measure s w.heap.size p v L w w1 C Q0 f hs hr0 hg hlab hL hCC hx ho hb
      · exact pass_hash s w.heap.size p v L w w1 C Q0 f hs hr0 hg hlab hL hCC hx ho hb
      · exact pass_at s w.heap.size p v L w w1 C Q0 f hs hr0 hg hlab hL hCC hx ho hb
      · exact pass_name s w.heap.size p v L w w1 C Q0 f hs hr0 hg hlab hL hCC hx ho hb
      · exact hlab.elim

end Go.Proofs.Ytmicgfpiknibhaa
