/- Structs of this chapter, each the same as itself. No conditions. -/
import Derived.Laws.StructEq
import Derived.Test.YtdgnbmcckknfiaaEqs
import Derived.Test.YtdgnbmcckknfiaaNodJ
namespace Go.Proofs.Ytdgnbmcckknfiaa
open Go.RowKit
set_option linter.unusedSimpArgs false
set_option maxRecDepth 100000 in
theorem eqS_inode (k l t : Int) (W : World) : (Op.equalIn 10000 35 (.agg #[.int .i64 k, .int .i64 l, .int .i64 t]) (.agg #[.int .i64 k, .int .i64 l, .int .i64 t])).run Try.prog W = .ok true W := by
  rw [run_equalIn_struct W 9999 35 _ _ (by kernel_rfl) (by kernel_rfl)]
  have p0 : (part 33 #[.int .i64 k, .int .i64 l, .int .i64 t] 0).run Try.prog W = .ok (.int .i64 k) W := by kernel_rfl
  have q0 : (Op.equalIn 9999 33 (.int .i64 k) (.int .i64 k)).run Try.prog W = .ok true W := by rw [run_equalIn_int W 9998 33 .i64 .i64 k k Try.underlying33]; simp
  have p1 : (part 3 #[.int .i64 k, .int .i64 l, .int .i64 t] 1).run Try.prog W = .ok (.int .i64 l) W := by kernel_rfl
  have q1 : (Op.equalIn 9999 3 (.int .i64 l) (.int .i64 l)).run Try.prog W = .ok true W := by rw [run_equalIn_int W 9998 3 .i64 .i64 l l Try.underlying3]; simp
  have p2 : (part 3 #[.int .i64 k, .int .i64 l, .int .i64 t] 2).run Try.prog W = .ok (.int .i64 t) W := by kernel_rfl
  have q2 : (Op.equalIn 9999 3 (.int .i64 t) (.int .i64 t)).run Try.prog W = .ok true W := by rw [run_equalIn_int W 9998 3 .i64 .i64 t t Try.underlying3]; simp
  simp [Program.fieldsOf, Try.underlying35, Op.eqFields, p0, q0, p1, q1, p2, q2]
set_option maxRecDepth 100000 in
theorem eqS_super (r l : Int) (W : World) : (Op.equalIn 10000 51 (.agg #[.int .i64 r, .int .i64 l]) (.agg #[.int .i64 r, .int .i64 l])).run Try.prog W = .ok true W := by
  rw [run_equalIn_struct W 9999 51 _ _ (by kernel_rfl) (by kernel_rfl)]
  have p0 : (part 3 #[.int .i64 r, .int .i64 l] 0).run Try.prog W = .ok (.int .i64 r) W := by kernel_rfl
  have q0 : (Op.equalIn 9999 3 (.int .i64 r) (.int .i64 r)).run Try.prog W = .ok true W := by rw [run_equalIn_int W 9998 3 .i64 .i64 r r Try.underlying3]; simp
  have p1 : (part 3 #[.int .i64 r, .int .i64 l] 1).run Try.prog W = .ok (.int .i64 l) W := by kernel_rfl
  have q1 : (Op.equalIn 9999 3 (.int .i64 l) (.int .i64 l)).run Try.prog W = .ok true W := by rw [run_equalIn_int W 9998 3 .i64 .i64 l l Try.underlying3]; simp
  simp [Program.fieldsOf, Try.underlying51, Op.eqFields, p0, q0, p1, q1]
set_option maxRecDepth 100000 in
theorem eqS_entry (n m : Int) (s : ByteArray) (W : World) : (Op.equalIn 10000 23 (.agg #[.int .i64 n, .int .i64 m, .string s]) (.agg #[.int .i64 n, .int .i64 m, .string s])).run Try.prog W = .ok true W := by
  rw [run_equalIn_struct W 9999 23 _ _ (by kernel_rfl) (by kernel_rfl)]
  have p0 : (part 3 #[.int .i64 n, .int .i64 m, .string s] 0).run Try.prog W = .ok (.int .i64 n) W := by kernel_rfl
  have q0 : (Op.equalIn 9999 3 (.int .i64 n) (.int .i64 n)).run Try.prog W = .ok true W := by rw [run_equalIn_int W 9998 3 .i64 .i64 n n Try.underlying3]; simp
  have p1 : (part 3 #[.int .i64 n, .int .i64 m, .string s] 1).run Try.prog W = .ok (.int .i64 m) W := by kernel_rfl
  have q1 : (Op.equalIn 9999 3 (.int .i64 m) (.int .i64 m)).run Try.prog W = .ok true W := by rw [run_equalIn_int W 9998 3 .i64 .i64 m m Try.underlying3]; simp
  have p2 : (part 9 #[.int .i64 n, .int .i64 m, .string s] 2).run Try.prog W = .ok (.string s) W := by kernel_rfl
  have q2 : (Op.equalIn 9999 9 (.string s) (.string s)).run Try.prog W = .ok true W := by rw [run_equalIn_string W 9998 9 s s Try.underlying9]; simp
  simp [Program.fieldsOf, Try.underlying23, Op.eqFields, p0, q0, p1, q1, p2, q2]
set_option maxRecDepth 100000 in
theorem eqS_table (y0 y1 y2 y3 y4 y5 y6 : Int) (W : World) : (Op.equalIn 10000 53 (.agg #[.int .i64 y0, .int .i64 y1, .int .i64 y2, .int .i64 y3, .int .i64 y4, .int .i64 y5, .int .i64 y6]) (.agg #[.int .i64 y0, .int .i64 y1, .int .i64 y2, .int .i64 y3, .int .i64 y4, .int .i64 y5, .int .i64 y6])).run Try.prog W = .ok true W := by
  rw [run_equalIn_struct W 9999 53 _ _ (by kernel_rfl) (by kernel_rfl)]
  have p0 : (part 37 #[.int .i64 y0, .int .i64 y1, .int .i64 y2, .int .i64 y3, .int .i64 y4, .int .i64 y5, .int .i64 y6] 0).run Try.prog W = .ok (.agg #[.int .i64 y0, .int .i64 y1, .int .i64 y2, .int .i64 y3, .int .i64 y4, .int .i64 y5, .int .i64 y6]) W := by kernel_rfl
  have q0 : (Op.equalIn 9999 37 (.agg #[.int .i64 y0, .int .i64 y1, .int .i64 y2, .int .i64 y3, .int .i64 y4, .int .i64 y5, .int .i64 y6]) (.agg #[.int .i64 y0, .int .i64 y1, .int .i64 y2, .int .i64 y3, .int .i64 y4, .int .i64 y5, .int .i64 y6])).run Try.prog W = .ok true W := by
    have := eq_ints (P := Try.prog) .i64 9997 7 Try.underlying37 (by kernel_rfl) Try.underlying3 (by kernel_rfl) (by kernel_rfl) [y0, y1, y2, y3, y4, y5, y6] [y0, y1, y2, y3, y4, y5, y6] rfl rfl W
    simpa using this
  simp [Program.fieldsOf, Try.underlying53, Op.eqFields, p0, q0]
set_option maxRecDepth 100000 in
theorem eqS_map (y y0 y1 y2 y3 y4 y5 y6 : Int) (W : World) : (Op.equalIn 10000 39 (.agg #[.int .i64 y, .int .i64 y0, .int .i64 y1, .int .i64 y2, .int .i64 y3, .int .i64 y4, .int .i64 y5, .int .i64 y6]) (.agg #[.int .i64 y, .int .i64 y0, .int .i64 y1, .int .i64 y2, .int .i64 y3, .int .i64 y4, .int .i64 y5, .int .i64 y6])).run Try.prog W = .ok true W := by
  rw [run_equalIn_struct W 9999 39 _ _ (by kernel_rfl) (by kernel_rfl)]
  have p0 : (part 3 #[.int .i64 y, .int .i64 y0, .int .i64 y1, .int .i64 y2, .int .i64 y3, .int .i64 y4, .int .i64 y5, .int .i64 y6] 0).run Try.prog W = .ok (.int .i64 y) W := by kernel_rfl
  have q0 : (Op.equalIn 9999 3 (.int .i64 y) (.int .i64 y)).run Try.prog W = .ok true W := by rw [run_equalIn_int W 9998 3 .i64 .i64 y y Try.underlying3]; simp
  have p1 : (part 37 #[.int .i64 y, .int .i64 y0, .int .i64 y1, .int .i64 y2, .int .i64 y3, .int .i64 y4, .int .i64 y5, .int .i64 y6] 1).run Try.prog W = .ok (.agg #[.int .i64 y0, .int .i64 y1, .int .i64 y2, .int .i64 y3, .int .i64 y4, .int .i64 y5, .int .i64 y6]) W := by kernel_rfl
  have q1 : (Op.equalIn 9999 37 (.agg #[.int .i64 y0, .int .i64 y1, .int .i64 y2, .int .i64 y3, .int .i64 y4, .int .i64 y5, .int .i64 y6]) (.agg #[.int .i64 y0, .int .i64 y1, .int .i64 y2, .int .i64 y3, .int .i64 y4, .int .i64 y5, .int .i64 y6])).run Try.prog W = .ok true W := by
    have := eq_ints (P := Try.prog) .i64 9997 7 Try.underlying37 (by kernel_rfl) Try.underlying3 (by kernel_rfl) (by kernel_rfl) [y0, y1, y2, y3, y4, y5, y6] [y0, y1, y2, y3, y4, y5, y6] rfl rfl W
    simpa using this
  simp [Program.fieldsOf, Try.underlying39, Op.eqFields, p0, q0, p1, q1]
theorem eqS_line (a b c d e f g h : Int) (W : World) : (Op.equalIn 10000 26 (.agg (ln8 a b c d e f g h)) (.agg (ln8 a b c d e f g h))).run Try.prog W = .ok true W := by
  have := line_eq8 [a, b, c, d, e, f, g, h] [a, b, c, d, e, f, g, h] rfl rfl W
  rw [decide_eq_true rfl] at this
  exact this
end Go.Proofs.Ytdgnbmcckknfiaa
