/- Plain laws of the bytes of words. No program in sight. -/
import Derived.Test.YtdgnbmcckknfiaaGreatFldP
namespace Go.Proofs.YtdgnbmcckknfiaaGreat
open Go.RowKit

/-- A byte of a word; the first bytes of a word; the bytes of words. -/
def wbyte (x i : Nat) : Nat := x / 2 ^ (8 * i) % 256
def wbytes (x k : Nat) : List Nat := (List.range k).map (wbyte x)
def bytesOf (l : List Nat) : List Nat := l.flatMap fun x => wbytes x 8
theorem wbyte_lt (x i : Nat) : wbyte x i < 256 := Nat.mod_lt _ (by omega)
theorem wbytes_len (x k : Nat) : (wbytes x k).length = k := by simp [wbytes]
theorem wbytes_succ (x k : Nat) : wbytes x (k + 1) = wbytes x k ++ [wbyte x k] := by unfold wbytes; rw [List.range_succ, List.map_append]; rfl
theorem bytesOf_len (l : List Nat) : (bytesOf l).length = 8 * l.length := by
  induction l with
  | nil => rfl
  | cons x t ih => unfold bytesOf at ih ⊢; rw [List.flatMap_cons, List.length_append, ih, wbytes_len, List.length_cons]; omega
theorem bytesOf_take (l : List Nat) (j : Nat) (x : Nat) (h : l[j]? = some x) : bytesOf (l.take (j + 1)) = bytesOf (l.take j) ++ wbytes x 8 := by
  rw [List.take_add_one, h]
  simp [bytesOf]
theorem bytesOf_lt (l : List Nat) : ∀ x ∈ bytesOf l, x < 256 := by
  intro x hx
  obtain ⟨y, _, h⟩ := List.mem_flatMap.1 hx
  obtain ⟨i, _, rfl⟩ := List.mem_map.1 h
  exact wbyte_lt _ _
/-- A list of bytes, as a row's cells. -/
def cells8 (l : List Nat) : List Value := l.map fun (x : Nat) => .int .u8 (x : Int)
theorem cells8_len (l : List Nat) : (cells8 l).length = l.length := by simp [cells8]
theorem cells8_app (l m : List Nat) : cells8 (l ++ m) = cells8 l ++ cells8 m := by simp [cells8]
theorem wbyte_Z (x i : Nat) : ((x : Int) / 2 ^ (8 * i)) % 256 = (wbyte x i : Int) := by
  have e : ((x : Int) / 2 ^ (8 * i)) = ((x / 2 ^ (8 * i) : Nat) : Int) := by
    rw [Int.natCast_ediv, Int.natCast_pow]
    rfl
  rw [e]
  unfold wbyte
  rfl

/-- Is a byte not nought? Is one of them? -/
def nz (x : Nat) : Bool := decide (x ≠ 0)
def anyNz (xs : List Nat) : Bool := xs.any nz
theorem anyNz_take (xs : List Nat) (j x : Nat) (h : xs[j]? = some x) (h0 : anyNz (xs.take j) = false) (h1 : nz x = false) : anyNz (xs.take (j + 1)) = false := by
  unfold anyNz at h0 ⊢
  rw [List.take_add_one, h, List.any_append, h0]
  simpa using h1
theorem anyNz_at (xs : List Nat) (j x : Nat) (h : xs[j]? = some x) (h1 : nz x = true) : anyNz xs = true := List.any_eq_true.2 ⟨x, List.mem_of_getElem? h, h1⟩

/-- What Bytes tells. -/
def bytesE (l : List Nat) (n : Int) : Int :=
  if n < 0 then 2 else if 4096 < n ∨ 4096 < l.length then 3 else if (8 * l.length : Int) < n then 4 else if l.length ≠ (n.toNat + 7) / 8 then 110 else if anyNz ((bytesOf l).drop n.toNat) then 110 else 0
def bytesL (l : List Nat) (n : Int) : List Nat := if bytesE l n = 0 then (bytesOf l).take n.toNat else []
end Go.Proofs.YtdgnbmcckknfiaaGreat
