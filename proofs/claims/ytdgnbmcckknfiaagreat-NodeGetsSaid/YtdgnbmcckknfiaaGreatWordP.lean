/- Plain laws of words and bytes: the words of bytes, byte by byte and bit by bit. No program in sight. -/
import Derived.Laws.Bits64b
import Derived.WalkKit
namespace Go.Proofs.YtdgnbmcckknfiaaGreat

/-- The number whose bytes, the lowest first, are these. -/
def leN : List Nat → Nat
  | [] => 0
  | b :: t => b + 256 * leN t
theorem leN_lt : ∀ (l : List Nat), (∀ x ∈ l, x < 256) → leN l < 2 ^ (8 * l.length)
  | [], _ => by simp [leN]
  | b :: t, h => by
    have h1 := leN_lt t (fun x hx => h x (List.mem_cons_of_mem _ hx))
    have h2 := h b (List.mem_cons_self ..)
    have h3 : 2 ^ (8 * (b :: t).length) = 256 * 2 ^ (8 * t.length) := by
      rw [List.length_cons, Nat.mul_add, Nat.pow_add, Nat.mul_comm]
    rw [h3]
    show b + 256 * leN t < _
    omega
theorem leN_app : ∀ (l : List Nat) (c : Nat), leN (l ++ [c]) = leN l + 2 ^ (8 * l.length) * c
  | [], c => by simp [leN]
  | b :: t, c => by
    have h1 := leN_app t c
    have h3 : 2 ^ (8 * (b :: t).length) = 256 * 2 ^ (8 * t.length) := by
      rw [List.length_cons, Nat.mul_add, Nat.pow_add, Nat.mul_comm]
    rw [h3, List.cons_append]
    show b + 256 * leN (t ++ [c]) = b + 256 * leN t + _
    rw [h1, Nat.mul_add, Nat.mul_assoc, Nat.add_assoc]

/-- The words of bytes. -/
def wordN (bs : List Nat) (k : Nat) : Nat := leN ((bs.drop (8 * k)).take 8)
def wordsN (bs : List Nat) : List Nat := (List.range ((bs.length + 7) / 8)).map (wordN bs)
/-- The words, with room for a byte more. -/
def openN (bs : List Nat) : List Nat := if bs.length % 8 = 0 then wordsN bs ++ [0] else wordsN bs
theorem wordsN_len (bs : List Nat) : (wordsN bs).length = (bs.length + 7) / 8 := by simp [wordsN]
theorem openN_len (bs : List Nat) : (openN bs).length = bs.length / 8 + 1 := by
  unfold openN
  split
  · simp [wordsN_len]; omega
  · rw [wordsN_len]; omega
/-- The word under way. -/
def lowN (bs : List Nat) : Nat := leN (bs.drop (8 * (bs.length / 8)))
theorem lowN_lt (bs : List Nat) (h : ∀ x ∈ bs, x < 256) : lowN bs < 2 ^ (8 * (bs.length % 8)) := by
  have := leN_lt (bs.drop (8 * (bs.length / 8))) (fun x hx => h x (List.mem_of_mem_drop hx))
  rw [List.length_drop, show bs.length - 8 * (bs.length / 8) = bs.length % 8 from by omega] at this
  exact this
theorem openN_low (bs : List Nat) : (openN bs)[bs.length / 8]? = some (lowN bs) := by
  unfold openN
  split
  · next h =>
    rw [List.getElem?_append_right (by rw [wordsN_len]; omega), wordsN_len]
    have h1 : bs.length / 8 - (bs.length + 7) / 8 = 0 := by omega
    have h2 : bs.drop (8 * (bs.length / 8)) = [] := List.drop_of_length_le (by omega)
    simp [h1, lowN, h2, leN]
  · next h =>
    unfold wordsN
    rw [List.getElem?_map, List.getElem?_range (by omega)]
    simp only [Option.map_some, wordN, lowN]
    rw [List.take_of_length_le (by rw [List.length_drop]; omega)]
theorem wordN_app (bs : List Nat) (c k : Nat) (hk : k < bs.length / 8) : wordN (bs ++ [c]) k = wordN bs k := by
  unfold wordN
  rw [List.drop_append_of_le_length (by omega), List.take_append_of_le_length (by rw [List.length_drop]; omega)]
theorem wordN_last (bs : List Nat) (c : Nat) : wordN (bs ++ [c]) (bs.length / 8) = lowN bs + 2 ^ (8 * (bs.length % 8)) * c := by
  unfold wordN lowN
  rw [List.drop_append_of_le_length (by omega), List.take_of_length_le (by rw [List.length_append, List.length_drop]; simp; omega), leN_app, List.length_drop, show bs.length - 8 * (bs.length / 8) = bs.length % 8 from by omega]
theorem wordsN_app (bs : List Nat) (c : Nat) : wordsN (bs ++ [c]) = (openN bs).set (bs.length / 8) (lowN bs + 2 ^ (8 * (bs.length % 8)) * c) := by
  apply List.ext_getElem?
  intro k
  have hlen : (bs ++ [c]).length = bs.length + 1 := by simp
  by_cases hk : k < bs.length / 8
  · rw [List.getElem?_set_ne (by omega)]
    have e1 : (wordsN (bs ++ [c]))[k]? = some (wordN bs k) := by
      unfold wordsN
      rw [List.getElem?_map, List.getElem?_range (by omega)]
      simp [wordN_app bs c k hk]
    have e2 : (wordsN bs)[k]? = some (wordN bs k) := by
      unfold wordsN
      rw [List.getElem?_map, List.getElem?_range (by omega)]
      simp
    rw [e1]
    unfold openN
    split
    · rw [List.getElem?_append_left (by rw [wordsN_len]; omega), e2]
    · rw [e2]
  · by_cases he : k = bs.length / 8
    · subst he
      rw [List.getElem?_set_self (by rw [openN_len]; omega)]
      unfold wordsN
      rw [List.getElem?_map, List.getElem?_range (by omega)]
      simp only [Option.map_some, wordN_last]
    · rw [List.getElem?_eq_none (by rw [wordsN_len]; omega), List.getElem?_eq_none (by rw [List.length_set, openN_len]; omega)]

/-- A byte's bits, one more. -/
theorem bits_more (c k : Nat) : c % 2 ^ (k + 1) = c % 2 ^ k + if c.testBit k then 2 ^ k else 0 := by
  rw [Nat.mod_pow_succ, Nat.testBit_eq_decide_div_mod_eq]
  by_cases h : c / 2 ^ k % 2 = 1
  · rw [h]; simp
  · rw [show c / 2 ^ k % 2 = 0 from by omega]; simp
theorem low_more (lo r c k : Nat) : lo + 2 ^ r * (c % 2 ^ (k + 1)) = (lo + 2 ^ r * (c % 2 ^ k)) + if c.testBit k then 2 ^ (r + k) else 0 := by
  rw [bits_more]
  cases c.testBit k
  · simp
  · simp only [if_true]
    rw [Nat.mul_add, ← Nat.pow_add, Nat.add_assoc]
theorem low_lt (lo r c k : Nat) (h : lo < 2 ^ r) : lo + 2 ^ r * (c % 2 ^ k) < 2 ^ (r + k) := by
  have h1 : c % 2 ^ k + 1 ≤ 2 ^ k := Nat.mod_lt _ (Nat.two_pow_pos k)
  have h2 := Nat.mul_le_mul_left (2 ^ r) h1
  rw [← Nat.pow_add, Nat.mul_add] at h2
  omega
theorem xor_new (x i : Nat) (h : x < 2 ^ i) : x ^^^ 2 ^ i = x + 2 ^ i := by
  have hlt : x + 2 ^ i < 2 ^ (i + 1) := by rw [Nat.pow_succ]; omega
  apply Nat.eq_of_testBit_eq
  intro j
  rw [Nat.testBit_xor, Nat.testBit_two_pow]
  rcases Nat.lt_trichotomy j i with hj | hj | hj
  · rw [Nat.add_comm, Nat.testBit_two_pow_add_gt hj, decide_eq_false (by omega)]
    simp
  · subst hj
    rw [Nat.add_comm, Nat.testBit_two_pow_add_eq, decide_eq_true rfl]
    cases x.testBit j <;> rfl
  · rw [Nat.testBit_lt_two_pow (Nat.lt_of_lt_of_le h (Nat.pow_le_pow_right (by omega) (by omega))), Nat.testBit_lt_two_pow (Nat.lt_of_lt_of_le hlt (Nat.pow_le_pow_right (by omega) hj)), decide_eq_false (by omega)]
    rfl
theorem xor_one (x i : Nat) (h : x < 2 ^ i) (hi : i < 64) : bits .xor .u64 x (IntKind.u64.wrap (2 ^ i)) = ((x + 2 ^ i : Nat) : Int) := by
  have h1 : 2 ^ i < 18446744073709551616 := Nat.pow_lt_pow_right (by omega) hi
  have h3 : 2 ^ (i + 1) ≤ 2 ^ 64 := Nat.pow_le_pow_right (by omega) hi
  have h2 : x + 2 ^ i < 18446744073709551616 := by rw [Nat.pow_succ] at h3; omega
  have hw : IntKind.u64.wrap ((2 : Int) ^ i) = ((2 ^ i : Nat) : Int) := by
    rw [show ((2 : Int) ^ i) = ((2 ^ i : Nat) : Int) from by norm_cast, IntKind.wrap_u64]
    omega
  rw [hw, bits_xor_u64_nat x (2 ^ i) (by omega) h1, xor_new x i h]
theorem bit_of (x i : Nat) : (((x : Int) / 2 ^ i).tmod 2 == 1) = x.testBit i := by
  rw [show ((x : Int) / 2 ^ i) = ((x / 2 ^ i : Nat) : Int) from by norm_cast]
  rw [show ((x / 2 ^ i : Nat) : Int).tmod 2 = ((x / 2 ^ i % 2 : Nat) : Int) from by rw [Int.tmod_eq_emod_of_nonneg (Int.natCast_nonneg _)]; rfl]
  rw [Nat.testBit_eq_decide_div_mod_eq]
  by_cases h : x / 2 ^ i % 2 = 1
  · rw [h]; simp
  · have : x / 2 ^ i % 2 = 0 := by omega
    rw [this]; simp
end Go.Proofs.YtdgnbmcckknfiaaGreat
