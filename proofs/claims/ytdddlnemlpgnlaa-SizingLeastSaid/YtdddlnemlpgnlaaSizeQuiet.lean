/- A struct's variable read whole within a region that draws its order. -/
import Derived.Test.YtdddlnemlpgnlaaSizeBox
namespace Go.Proofs.Ytdddlnemlpgnlaa
open Go.RowKit
set_option linter.unusedSimpArgs false
set_option linter.unusedVariables false

theorem wpQuiet_load_whole {ops : Array Oper} {rest : List Oper} {o : Oper} {a : Act} {w : World} {Q : Act → Prop} {t : TypeId} {cs : Array Value} {d : TypeDesc} (hw : Region.wanted o (yielded ops a.tmps) = true) (ty : TypeId) (x : Operand) (ho : o.op = .load ty x)
    (q : Nat) (hx : a.eval x = .pointer (some ⟨q, 0, none⟩)) (hb : Blk w q t cs) (hu : Try.prog.underlying ty = some d) (hd : d.isRow = true) (hi : (Try.prog.info? ty).map (·.size) = some cs.size)
    (h : wpQuiet Try.prog ops (fun w' => ∃ u, w' = ext w u) Q rest (a.put o.dst (.agg cs))) : wpQuiet Try.prog ops (fun w' => ∃ u, w' = ext w u) Q (o :: rest) a :=
  BigFrame.wpQuiet_want hw fun K hK => ⟨.agg cs, fun w' hw' => by
    obtain ⟨u, rfl⟩ := hw'
    have hb' := hb.of_kept ((below_ext w u).block q hb.lt)
    have h1 := run_loadAt_mid (P := Try.prog) (ext w u) q 0 ty cs.toList d (fun j u hu => by rw [Nat.zero_add, hb'.cell j]; simpa using hu) hu hd (by simpa using hi)
    have h2 : (execOp a.eval o).run Try.prog (ext w u) = .ok (.value (.agg cs)) (ext w u) := by
      unfold execOp
      rw [ho]
      show (Sem.run Try.prog _ _) = _
      simp only [hx, Sem.run_bind, h1, Result.andThen_ok]
      simp
    unfold Oper.quietAt
    rw [h2]
    exact ⟨rfl, rfl⟩, hK _ h⟩

end Go.Proofs.Ytdddlnemlpgnlaa
