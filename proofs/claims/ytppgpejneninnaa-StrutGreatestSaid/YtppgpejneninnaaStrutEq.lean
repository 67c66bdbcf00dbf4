/- Two struts compared. -/
import Derived.Test.YtppgpejneninnaaStrutWalks
import Derived.ChangeKeysEq
namespace Go.Proofs.Ytppgpejneninnaa
open Go.RowKit
set_option linter.unusedSimpArgs false

theorem eql_strut (a b c d : Int) (w : World) :
    (binOp .eql 23 (.agg #[.int .i64 a, .int .i64 b]) (.agg #[.int .i64 c, .int .i64 d])).run Try.prog w = .ok (.bool (decide (a = c ∧ b = d))) w := by
  by_cases h1 : a = c <;> by_cases h2 : b = d <;> simp [go_sem, h1, h2, Op.eqFields]
theorem neq_strut (a b c d : Int) (w : World) :
    (binOp .neq 23 (.agg #[.int .i64 a, .int .i64 b]) (.agg #[.int .i64 c, .int .i64 d])).run Try.prog w = .ok (.bool (!decide (a = c ∧ b = d))) w := by
  by_cases h1 : a = c <;> by_cases h2 : b = d <;> simp [go_sem, h1, h2, Op.eqFields]
theorem int_row : (Try.prog.info? 3).map (fun i => (i.zero, i.size, i.bytes)) = some (some (.int .i64 0), 1, 8) := by kernel_rfl
theorem cells_one : Try.prog.cellsOf 3 = 1 := by kernel_rfl

theorem equal_pair (d : Nat) (a b c e : Int) (w : World) :
    (Op.equalIn (d + 2) 25 (.agg #[.int .i64 a, .int .i64 b]) (.agg #[.int .i64 c, .int .i64 e])).run Try.prog w = .ok (decide (a = c ∧ b = e)) w := by
  obtain ⟨i0, hi, -, -, -⟩ := info_parts int_row
  rw [run_equalIn_array w (d + 1) _ _ Try.underlying25 hi, cells_one, show List.range 2 = [0, 1] from rfl]
  by_cases h1 : a = c <;> by_cases h2 : b = e <;> simp [Op.eqItems, go_sem, h1, h2]

theorem eql_pair (a b c d : Int) (w : World) :
    (binOp .eql 25 (.agg #[.int .i64 a, .int .i64 b]) (.agg #[.int .i64 c, .int .i64 d])).run Try.prog w = .ok (.bool (decide (a = c ∧ b = d))) w := by
  rw [run_eql_struct, equal_pair 9998]; rfl

end Go.Proofs.Ytppgpejneninnaa
