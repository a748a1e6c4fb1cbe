/- The words of bytes, folded and plainly, are the same numbers. Conditions: bytes below 256. -/
import Derived.Laws.Bits64b
import Derived.Test.YtdgnbmcckknfiaaGreatWordC
import Derived.Test.YtdgnbmcckknfiaaGreatWordD
namespace Go.Proofs.YtdgnbmcckknfiaaGreat
open Go.RowKit

theorem byin_nat (a c : Nat) (ha : a < 72057594037927936) (hc : c < 256) : byin a c = ((c + 256 * a : Nat) : Int) := by
  unfold byin
  have hw : IntKind.u64.wrap ((a : Int) * 256) = ((256 * a : Nat) : Int) := by rw [IntKind.wrap_u64]; omega
  rw [hw, bits_or_u64_nat (256 * a) c (by omega) (by omega)]
  have h := Nat.two_pow_add_eq_or_of_lt (i := 8) (b := c) (by omega) a
  rw [show (2 : Nat) ^ 8 = 256 from rfl] at h
  rw [← h, Nat.add_comm]

theorem fold8_le : ∀ (l : List Nat), l.length ≤ 8 → (∀ x ∈ l, x < 256) → fold8 0 (l.map Int.ofNat).reverse = (leN l : Int)
  | [], _, _ => rfl
  | b :: t, hl, hx => by
    have h1 := fold8_le t (by simp at hl; omega) (fun x h => hx x (List.mem_cons_of_mem _ h))
    have h2 := leN_lt t (fun x h => hx x (List.mem_cons_of_mem _ h))
    have h3 : 2 ^ (8 * t.length) ≤ 2 ^ 56 := Nat.pow_le_pow_right (by omega) (by simp at hl; omega)
    have h4 := hx b (List.mem_cons_self ..)
    have e : fold8 0 ((b :: t).map Int.ofNat).reverse = byin (fold8 0 (t.map Int.ofNat).reverse) b := by
      unfold fold8
      rw [List.map_cons, List.reverse_cons, List.foldl_append]
      rfl
    rw [e, h1, byin_nat _ _ (by omega) h4]
    rfl

theorem wordAt_nat (bs : List Nat) (hx : ∀ x ∈ bs, x < 256) (k : Nat) : wordAt (bs.map Int.ofNat) k = (wordN bs k : Int) := by
  unfold wordAt wordN
  rw [← List.map_drop, ← List.map_take]
  exact fold8_le _ (by rw [List.length_take]; omega) (fun x h => hx x (List.mem_of_mem_drop (List.mem_of_mem_take h)))

theorem wordsOf_nat (bs : List Nat) (hx : ∀ x ∈ bs, x < 256) : (wordsOf (bs.map Int.ofNat)).map (Value.int .u64) = cells64 (wordsN bs) := by
  unfold wordsOf wordsTo cells64 wordsN
  rw [List.map_map, List.map_map, List.length_map]
  apply List.map_congr_left
  intro k _
  show Value.int .u64 (wordAt (bs.map Int.ofNat) k) = _
  rw [wordAt_nat bs hx k]
  rfl

theorem bytes_nat (xs : List Int) (h : ∀ x ∈ xs, 0 ≤ x ∧ x < 256) : xs = (xs.map Int.toNat).map Int.ofNat ∧ ∀ x ∈ xs.map Int.toNat, x < 256 := by
  constructor
  · rw [List.map_map]
    apply List.ext_getElem
    · simp
    · intro k h1 h2
      have := h (xs[k]) (List.getElem_mem _)
      simp only [List.getElem_map, Function.comp]
      show _ = ((xs[k].toNat : Nat) : Int)
      omega
  · intro x hx
    obtain ⟨y, hy, rfl⟩ := List.mem_map.1 hx
    have := h y hy
    omega

set_option maxRecDepth 100000 in
set_option maxHeartbeats 400000 in
theorem words_long (A : Option Addr) (n c : Nat) (w : World) (hl : 4096 < n) (hn : n ≤ maxLen) :
    Calls Tryz.prog 91 #[.slice A n c] w fun e w' => e = .returned (.tuple #[.slice none 0 0, .int .i64 3]) ∧ Below w.heap.size w w' := by
  unfold maxLen at hn
  refine (callsIn_wide (n := 3)).1 (callsIn_of_wp_marks Tryz.func91 rfl trivial ?_ rfl)
  simp only [Tryz.ntmps91, List.size_toArray, List.length_cons, List.length_nil, Nat.reduceAdd, Nat.reduceSub, Array.replicate_succ, Array.replicate_zero, List.push_toArray, List.append_toArray, List.nil_append, List.cons_append]
  gi_wp2_with fail
  exact ⟨.tuple #[.slice none 0 0, .int .i64 3], by simp [results, Tryz.results91, go_sem], rfl, (Below.refl _ w).alloc (Nat.le_refl _) _⟩
end Go.Proofs.YtdgnbmcckknfiaaGreat
