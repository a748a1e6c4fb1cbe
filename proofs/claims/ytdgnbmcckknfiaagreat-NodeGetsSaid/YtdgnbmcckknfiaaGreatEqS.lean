/- Structs of this chapter, each the same as itself. No conditions. -/
import Derived.Laws.StructEq
import Derived.Test.YtdgnbmcckknfiaaGreatEqs
import Derived.Test.YtdgnbmcckknfiaaGreatNodJ
namespace Go.Proofs.YtdgnbmcckknfiaaGreat
open Go.RowKit
set_option linter.unusedSimpArgs false
set_option maxRecDepth 100000 in
theorem eqS_inode (k l t : Int) (W : World) : (Op.equalIn 10000 31 (.agg #[.int .i64 k, .int .i64 l, .int .i64 t]) (.agg #[.int .i64 k, .int .i64 l, .int .i64 t])).run Tryz.prog W = .ok true W := by
  rw [run_equalIn_struct W 9999 31 _ _ (by kernel_rfl) (by kernel_rfl)]
  have p0 : (part 29 #[.int .i64 k, .int .i64 l, .int .i64 t] 0).run Tryz.prog W = .ok (.int .i64 k) W := by kernel_rfl
  have q0 : (Op.equalIn 9999 29 (.int .i64 k) (.int .i64 k)).run Tryz.prog W = .ok true W := by rw [run_equalIn_int W 9998 29 .i64 .i64 k k Tryz.underlying29]; simp
  have p1 : (part 3 #[.int .i64 k, .int .i64 l, .int .i64 t] 1).run Tryz.prog W = .ok (.int .i64 l) W := by kernel_rfl
  have q1 : (Op.equalIn 9999 3 (.int .i64 l) (.int .i64 l)).run Tryz.prog W = .ok true W := by rw [run_equalIn_int W 9998 3 .i64 .i64 l l Tryz.underlying3]; simp
  have p2 : (part 3 #[.int .i64 k, .int .i64 l, .int .i64 t] 2).run Tryz.prog W = .ok (.int .i64 t) W := by kernel_rfl
  have q2 : (Op.equalIn 9999 3 (.int .i64 t) (.int .i64 t)).run Tryz.prog W = .ok true W := by rw [run_equalIn_int W 9998 3 .i64 .i64 t t Tryz.underlying3]; simp
  simp [Program.fieldsOf, Tryz.underlying31, Op.eqFields, p0, q0, p1, q1, p2, q2]
set_option maxRecDepth 100000 in
theorem eqS_super (r l : Int) (W : World) : (Op.equalIn 10000 25 (.agg #[.int .i64 r, .int .i64 l]) (.agg #[.int .i64 r, .int .i64 l])).run Tryz.prog W = .ok true W := by
  rw [run_equalIn_struct W 9999 25 _ _ (by kernel_rfl) (by kernel_rfl)]
  have p0 : (part 3 #[.int .i64 r, .int .i64 l] 0).run Tryz.prog W = .ok (.int .i64 r) W := by kernel_rfl
  have q0 : (Op.equalIn 9999 3 (.int .i64 r) (.int .i64 r)).run Tryz.prog W = .ok true W := by rw [run_equalIn_int W 9998 3 .i64 .i64 r r Tryz.underlying3]; simp
  have p1 : (part 3 #[.int .i64 r, .int .i64 l] 1).run Tryz.prog W = .ok (.int .i64 l) W := by kernel_rfl
  have q1 : (Op.equalIn 9999 3 (.int .i64 l) (.int .i64 l)).run Tryz.prog W = .ok true W := by rw [run_equalIn_int W 9998 3 .i64 .i64 l l Tryz.underlying3]; simp
  simp [Program.fieldsOf, Tryz.underlying25, Op.eqFields, p0, q0, p1, q1]
set_option maxRecDepth 100000 in
theorem eqS_entry (n m : Int) (s : ByteArray) (W : World) : (Op.equalIn 10000 44 (.agg #[.int .i64 n, .int .i64 m, .string s]) (.agg #[.int .i64 n, .int .i64 m, .string s])).run Tryz.prog W = .ok true W := by
  rw [run_equalIn_struct W 9999 44 _ _ (by kernel_rfl) (by kernel_rfl)]
  have p0 : (part 3 #[.int .i64 n, .int .i64 m, .string s] 0).run Tryz.prog W = .ok (.int .i64 n) W := by kernel_rfl
  have q0 : (Op.equalIn 9999 3 (.int .i64 n) (.int .i64 n)).run Tryz.prog W = .ok true W := by rw [run_equalIn_int W 9998 3 .i64 .i64 n n Tryz.underlying3]; simp
  have p1 : (part 3 #[.int .i64 n, .int .i64 m, .string s] 1).run Tryz.prog W = .ok (.int .i64 m) W := by kernel_rfl
  have q1 : (Op.equalIn 9999 3 (.int .i64 m) (.int .i64 m)).run Tryz.prog W = .ok true W := by rw [run_equalIn_int W 9998 3 .i64 .i64 m m Tryz.underlying3]; simp
  have p2 : (part 9 #[.int .i64 n, .int .i64 m, .string s] 2).run Tryz.prog W = .ok (.string s) W := by kernel_rfl
  have q2 : (Op.equalIn 9999 9 (.string s) (.string s)).run Tryz.prog W = .ok true W := by rw [run_equalIn_string W 9998 9 s s Tryz.underlying9]; simp
  simp [Program.fieldsOf, Tryz.underlying44, Op.eqFields, p0, q0, p1, q1, p2, q2]
set_option maxRecDepth 100000 in
theorem eqS_table (y0 y1 y2 y3 y4 y5 y6 : Int) (W : World) : (Op.equalIn 10000 40 (.agg #[.int .i64 y0, .int .i64 y1, .int .i64 y2, .int .i64 y3, .int .i64 y4, .int .i64 y5, .int .i64 y6]) (.agg #[.int .i64 y0, .int .i64 y1, .int .i64 y2, .int .i64 y3, .int .i64 y4, .int .i64 y5, .int .i64 y6])).run Tryz.prog W = .ok true W := by
  rw [run_equalIn_struct W 9999 40 _ _ (by kernel_rfl) (by kernel_rfl)]
  have p0 : (part 34 #[.int .i64 y0, .int .i64 y1, .int .i64 y2, .int .i64 y3, .int .i64 y4, .int .i64 y5, .int .i64 y6] 0).run Tryz.prog W = .ok (.agg #[.int .i64 y0, .int .i64 y1, .int .i64 y2, .int .i64 y3, .int .i64 y4, .int .i64 y5, .int .i64 y6]) W := by kernel_rfl
  have q0 : (Op.equalIn 9999 34 (.agg #[.int .i64 y0, .int .i64 y1, .int .i64 y2, .int .i64 y3, .int .i64 y4, .int .i64 y5, .int .i64 y6]) (.agg #[.int .i64 y0, .int .i64 y1, .int .i64 y2, .int .i64 y3, .int .i64 y4, .int .i64 y5, .int .i64 y6])).run Tryz.prog W = .ok true W := by
    have := eq_ints (P := Tryz.prog) .i64 9997 7 Tryz.underlying34 (by kernel_rfl) Tryz.underlying3 (by kernel_rfl) (by kernel_rfl) [y0, y1, y2, y3, y4, y5, y6] [y0, y1, y2, y3, y4, y5, y6] rfl rfl W
    simpa using this
  simp [Program.fieldsOf, Tryz.underlying40, Op.eqFields, p0, q0]
set_option maxRecDepth 100000 in
theorem eqS_map (y y0 y1 y2 y3 y4 y5 y6 : Int) (W : World) : (Op.equalIn 10000 36 (.agg #[.int .i64 y, .int .i64 y0, .int .i64 y1, .int .i64 y2, .int .i64 y3, .int .i64 y4, .int .i64 y5, .int .i64 y6]) (.agg #[.int .i64 y, .int .i64 y0, .int .i64 y1, .int .i64 y2, .int .i64 y3, .int .i64 y4, .int .i64 y5, .int .i64 y6])).run Tryz.prog W = .ok true W := by
  rw [run_equalIn_struct W 9999 36 _ _ (by kernel_rfl) (by kernel_rfl)]
  have p0 : (part 3 #[.int .i64 y, .int .i64 y0, .int .i64 y1, .int .i64 y2, .int .i64 y3, .int .i64 y4, .int .i64 y5, .int .i64 y6] 0).run Tryz.prog W = .ok (.int .i64 y) W := by kernel_rfl
  have q0 : (Op.equalIn 9999 3 (.int .i64 y) (.int .i64 y)).run Tryz.prog W = .ok true W := by rw [run_equalIn_int W 9998 3 .i64 .i64 y y Tryz.underlying3]; simp
  have p1 : (part 34 #[.int .i64 y, .int .i64 y0, .int .i64 y1, .int .i64 y2, .int .i64 y3, .int .i64 y4, .int .i64 y5, .int .i64 y6] 1).run Tryz.prog W = .ok (.agg #[.int .i64 y0, .int .i64 y1, .int .i64 y2, .int .i64 y3, .int .i64 y4, .int .i64 y5, .int .i64 y6]) W := by kernel_rfl
  have q1 : (Op.equalIn 9999 34 (.agg #[.int .i64 y0, .int .i64 y1, .int .i64 y2, .int .i64 y3, .int .i64 y4, .int .i64 y5, .int .i64 y6]) (.agg #[.int .i64 y0, .int .i64 y1, .int .i64 y2, .int .i64 y3, .int .i64 y4, .int .i64 y5, .int .i64 y6])).run Tryz.prog W = .ok true W := by
    have := eq_ints (P := Tryz.prog) .i64 9997 7 Tryz.underlying34 (by kernel_rfl) Tryz.underlying3 (by kernel_rfl) (by kernel_rfl) [y0, y1, y2, y3, y4, y5, y6] [y0, y1, y2, y3, y4, y5, y6] rfl rfl W
    simpa using this
  simp [Program.fieldsOf, Tryz.underlying36, Op.eqFields, p0, q0, p1, q1]
theorem eqS_line (a b c d e f g h : Int) (W : World) : (Op.equalIn 10000 23 (.agg (ln8 a b c d e f g h)) (.agg (ln8 a b c d e f g h))).run Tryz.prog W = .ok true W := by
  have := line_eq8 [a, b, c, d, e, f, g, h] [a, b, c, d, e, f, g, h] rfl rfl W
  rw [decide_eq_true rfl] at this
  exact this
end Go.Proofs.YtdgnbmcckknfiaaGreat
