/- Arrays of whole numbers, compared. No conditions but the types' own facts. -/
import Derived.ChangeKeysEq
import Derived.Test.YtdgnbmcckknfiaaGreatRws
import Derived.Test.YtdgnbmcckknfiaaGreatNodA
namespace Go.Proofs.YtdgnbmcckknfiaaGreat
open Go.RowKit

section
variable {P : Program}
theorem eqItems_ints (k : IntKind) (d : Nat) {e : TypeId} (he : P.underlying e = some (.int k)) (hp : P.plainKey e = true) (hc : P.cellsOf e = 1) (xs ys : List Int) (w : World) :
    ∀ (m j : Nat), j + m = xs.length → j + m = ys.length → (Op.eqItems (d + 1) e (P.cellsOf e) (xs.map (Value.int k)).toArray (ys.map (Value.int k)).toArray (List.range' j m)).run P w = .ok (decide (xs.drop j = ys.drop j)) w
  | 0, j, hx, hy => by
    rw [List.drop_of_length_le (by omega), List.drop_of_length_le (by omega)]
    simp [Op.eqItems]
  | m + 1, j, hx, hy => by
    have ih := eqItems_ints k d he hp hc xs ys w m (j + 1) (by omega) (by omega)
    have h1 : (xs.map (Value.int k)).toArray[j * 1]? = some (.int k xs[j]) := by
      rw [Nat.mul_one, List.getElem?_toArray, List.getElem?_map, List.getElem?_eq_getElem (by omega)]; rfl
    have h2 : (ys.map (Value.int k)).toArray[j * 1]? = some (.int k ys[j]) := by
      rw [Nat.mul_one, List.getElem?_toArray, List.getElem?_map, List.getElem?_eq_getElem (by omega)]; rfl
    rw [List.drop_eq_getElem_cons (show j < xs.length by omega), List.drop_eq_getElem_cons (show j < ys.length by omega)]
    rw [hc] at ih
    simp only [List.range'_succ, Op.eqItems, hc, Sem.run_bind, run_part_plain w hp h1, run_part_plain w hp h2, Result.andThen_ok, run_equalIn_int w d e k k _ _ he]
    by_cases h : xs[j] = ys[j]
    · have hb : (xs[j] == ys[j]) = true := by simp [h]
      rw [hb]
      simp only [Bool.not_true, Bool.false_eq_true, if_false, ih]
      exact congrArg (fun b => Result.ok b w) (decide_eq_decide.2 ⟨fun q => by rw [h, q], fun q => (List.cons.inj q).2⟩)
    · have hb : (xs[j] == ys[j]) = false := by simp [h]
      rw [hb, decide_eq_false (fun q => h (List.cons.inj q).1)]
      simp
theorem eq_ints (k : IntKind) (d n : Nat) {t e : TypeId} (hu : P.underlying t = some (.array n e)) (hii : (P.info? e).isSome = true) (he : P.underlying e = some (.int k)) (hp : P.plainKey e = true) (hc : P.cellsOf e = 1) (xs ys : List Int) (hx : xs.length = n) (hy : ys.length = n) (w : World) :
    (Op.equalIn (d + 1 + 1) t (.agg (xs.map (Value.int k)).toArray) (.agg (ys.map (Value.int k)).toArray)).run P w = .ok (decide (xs = ys)) w := by
  obtain ⟨i, hi⟩ := Option.isSome_iff_exists.1 hii
  rw [run_equalIn_array w (d + 1) _ _ hu hi, List.range_eq_range']
  have := eqItems_ints k d he hp hc xs ys w n 0 (by omega) (by omega)
  simpa using this
end
theorem line_eq8 (xs ys : List Int) (hx : xs.length = 8) (hy : ys.length = 8) (W : World) :
    (Op.equalIn 10000 23 (.agg (xs.map (Value.int .u64)).toArray) (.agg (ys.map (Value.int .u64)).toArray)).run Tryz.prog W = .ok (decide (xs = ys)) W :=
  eq_ints .u64 9998 8 Tryz.underlying23 (by kernel_rfl) Tryz.underlying22 (by kernel_rfl) (by kernel_rfl) xs ys hx hy W
end Go.Proofs.YtdgnbmcckknfiaaGreat
