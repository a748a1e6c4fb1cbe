/- Plain laws of the bits that are 1, rising, and of the word without its lowest one. No program in sight. -/
import Derived.Lib.TrailingZeros
import Derived.Test.YtamgmbmjbegfgaaDoorFldP
namespace Go.Proofs.YtamgmbmjbegfgaaDoor

/-- The bits that are 1, rising. -/
def onesL (x : Nat) : List Nat := (List.range 64).filter x.testBit
theorem onesL_mem (x i : Nat) : i ∈ onesL x ↔ i < 64 ∧ x.testBit i = true := by simp [onesL]
/-- The word under way: what lies below m has gone; k bits have come. -/
def LeftAt (x left k : Nat) : Prop := ∃ m, m ≤ 64 ∧ (∀ i, left.testBit i = (decide (m ≤ i) && x.testBit i)) ∧ k = ((List.range m).filter x.testBit).length
theorem LeftAt.start (x : Nat) : LeftAt x x 0 := ⟨0, by omega, fun i => by simp, rfl⟩

theorem odd_bits (c m i : Nat) : (2 ^ c * (2 * m + 1)).testBit i = (decide (c ≤ i) && (2 * m + 1).testBit (i - c)) := by
  rw [Nat.testBit_two_pow_mul]
theorem pred_and (c m i : Nat) : (2 ^ c * (2 * m + 1) &&& (2 ^ c * (2 * m + 1) - 1)).testBit i = ((2 ^ c * (2 * m + 1)).testBit i && decide (i ≠ c)) := by
  have hp := Nat.two_pow_pos c
  have e : 2 ^ c * (2 * m + 1) - 1 = 2 ^ c * (2 * m) + (2 ^ c - 1) := by rw [Nat.mul_add, Nat.mul_one]; omega
  rw [Nat.testBit_and, e, Nat.testBit_two_pow_mul_add _ (by omega), odd_bits]
  by_cases h : i < c
  · rw [if_pos h, decide_eq_false (by omega : ¬ c ≤ i)]
    simp
  · rw [if_neg h, decide_eq_true (by omega : c ≤ i)]
    by_cases h2 : i = c
    · subst h2
      simp
    · obtain ⟨j, hj⟩ : ∃ j, i - c = j + 1 := ⟨i - c - 1, by omega⟩
      rw [hj, Nat.testBit_succ, Nat.testBit_succ, show (2 * m + 1) / 2 = m by omega, show 2 * m / 2 = m by omega]
      simp [h2]

theorem filter_range_gap (x m c : Nat) (hmc : m ≤ c) (h : ∀ i, m ≤ i → i < c → x.testBit i = false) : (List.range c).filter x.testBit = (List.range m).filter x.testBit := by
  obtain ⟨n, rfl⟩ : ∃ n, c = m + n := ⟨c - m, by omega⟩
  rw [List.range_add, List.filter_append]
  rw [show ((List.range n).map (m + ·)).filter x.testBit = [] from ?_, List.append_nil]
  rw [List.filter_eq_nil_iff]
  intro i hi
  obtain ⟨j, hj, rfl⟩ := List.mem_map.1 hi
  rw [h (m + j) (by omega) (by have := List.mem_range.1 hj; omega)]
  simp
theorem onesL_at (x c : Nat) (hc : c < 64) (h : x.testBit c = true) : (onesL x)[((List.range c).filter x.testBit).length]? = some c := by
  unfold onesL
  obtain ⟨n, hn⟩ : ∃ n, 64 = (c + 1) + n := ⟨64 - (c + 1), by omega⟩
  rw [hn, List.range_add, List.filter_append, List.range_succ, List.filter_append, List.append_assoc, List.getElem?_append_right (Nat.le_refl _), Nat.sub_self]
  simp [h]

theorem LeftAt.next {x left k : Nat} (h : LeftAt x left k) (h0 : left ≠ 0) (hl : left < 18446744073709551616) :
    (onesL x)[k]? = some (Lib.ctz 64 left) ∧ Lib.ctz 64 left < 64 ∧ LeftAt x (left &&& (left - 1)) (k + 1) := by
  obtain ⟨m, hm, hb, hk⟩ := h
  obtain ⟨q, hq, hc⟩ := Lib.ctzFrom_spec 64 left (by omega) hl
  have e : Lib.ctz 64 left = Lib.ctzFrom 64 left := by simp [Lib.ctz, h0]
  rw [e]
  obtain ⟨c, hcc⟩ : ∃ c, Lib.ctzFrom 64 left = c := ⟨_, rfl⟩
  rw [hcc] at hq hc ⊢
  have h1 : left.testBit c = true := by
    rw [hq, odd_bits]
    simp
  have h2 : ∀ i, i < c → left.testBit i = false := by
    intro i hi
    rw [hq, odd_bits, decide_eq_false (by omega)]
    rfl
  have h3 := hb c
  rw [h1] at h3
  have h4 : m ≤ c ∧ x.testBit c = true := by
    have := h3.symm
    simpa using this
  have h5 : (List.range c).filter x.testBit = (List.range m).filter x.testBit := filter_range_gap x m c h4.1 (by
    intro i hi1 hi2
    have h6 := hb i
    rw [h2 i hi2] at h6
    simpa [hi1] using h6.symm)
  refine ⟨?_, hc, c + 1, by omega, ?_, ?_⟩
  · rw [hk, ← h5]
    exact onesL_at x c hc h4.2
  · intro i
    rw [show (left &&& (left - 1)).testBit i = (left.testBit i && decide (i ≠ c)) from by rw [hq]; exact pred_and c q i, hb i]
    by_cases h6 : c + 1 ≤ i
    · simp [h6, show m ≤ i by omega, show i ≠ c by omega]
    · by_cases h7 : i = c
      · simp [h7]
        intro hx
        omega
      · have h8 := h2 i (by omega)
        rw [hb i] at h8
        simp [h6, h7]
        simpa using h8
  · rw [List.range_succ, List.filter_append, h5, List.length_append, ← hk]
    simp [h4.2]
theorem LeftAt.done {x k : Nat} (h : LeftAt x 0 k) : k = (onesL x).length := by
  obtain ⟨m, hm, hb, hk⟩ := h
  unfold onesL
  rw [filter_range_gap x m 64 hm (by
    intro i h1 _
    have := hb i
    simpa [h1] using this.symm), hk]
theorem LeftAt.more {x left k : Nat} (h : LeftAt x left k) (h0 : left ≠ 0) (hl : left < 18446744073709551616) : k < (onesL x).length := by
  obtain ⟨h1, _⟩ := h.next h0 hl
  exact (List.getElem?_eq_some_iff.1 h1).1
end Go.Proofs.YtamgmbmjbegfgaaDoor
